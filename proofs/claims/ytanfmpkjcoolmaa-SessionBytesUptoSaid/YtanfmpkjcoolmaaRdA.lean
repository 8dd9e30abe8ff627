/- The readers, told of what is left. -/
import Derived.Test.YtanfmpkjcoolmaaPkA
import Derived.Test.YtanfmpkjcoolmaaPackPlain3
import Derived.KernelRfl
set_option linter.unusedVariables false
set_option linter.unusedSimpArgs false
namespace Go.Proofs.Ytanfmpkjcoolmaa.Rd
open Go Go.Abs Go.Proofs.Ytanfmpkjcoolmaa.Pk
attribute [local irreducible] AWP AOps Does


theorem uw {u : Up} : u.int (-9223372036854775808) 9223372036854775807 = u.w := by unfold Up.w; rfl
theorem U_int (u : Up) (hu : u.ok) (lo hi : Int) : Does Try.prog 85 [.bp 0 0, vi lo, vi hi] [.box (Up.z u)] (vi (u.int lo hi).1) [.box (Up.z (u.int lo hi).2)] := u_int u.b u.e lo hi hu.1 hu.2
theorem U_w (u : Up) (hu : u.ok) : Does Try.prog 85 [.bp 0 0, vi (-9223372036854775808), vi 9223372036854775807] [.box (Up.z u)] (vi u.w.1) [.box (Up.z u.w.2)] := by have := U_int u hu (-9223372036854775808) 9223372036854775807; rw [uw] at this; exact this
theorem U_str (u : Up) (hu : u.ok) (m : Int) (hm : -9223372036854775808 ≤ m ∧ m ≤ 9223372036854775807) : Does Try.prog 87 [.bp 0 0, vi m] [.box (Up.z u)] (bys (u.str m).1) [.box (Up.z (u.str m).2)] := u_str u.b u.e m hm hu.1 hu.2
theorem U_close (u : Up) : Does Try.prog 91 [.bp 0 0] [.box (Up.z u)] (vi u.close) [.box (Up.z u)] := u_close u.b u.e
theorem R_int (u : Up) (hu : u.ok) (lo hi : Int) : Does Try.prog 198 [.bp 0 0, vi lo, vi hi] [.box (Up.rz u.clr)] (vi (u.int lo hi).1) [.box (Up.rz (u.int lo hi).2.clr)] := by
  have h : Does Try.prog 198 [.bp 0 0, vi lo, vi hi] [.box (Up.rz u.clr)] (vi (u.clr.int lo hi).1) [.box (Up.rz (u.clr.int lo hi).2.clr)] := ru_int u.clr.b u.clr.e (Up.clr_nil u) lo hi (Up.clr_ok hu).1 (Up.clr_ok hu).2
  rw [(Up.int_clr u lo hi).1, (Up.int_clr u lo hi).2] at h
  exact h
theorem R_w (u : Up) (hu : u.ok) : Does Try.prog 198 [.bp 0 0, vi (-9223372036854775808), vi 9223372036854775807] [.box (Up.rz u.clr)] (vi u.w.1) [.box (Up.rz u.w.2.clr)] := by have := R_int u hu (-9223372036854775808) 9223372036854775807; rw [uw] at this; exact this
theorem R_str (u : Up) (hu : u.ok) (m : Int) (hm : -9223372036854775808 ≤ m ∧ m ≤ 9223372036854775807) : Does Try.prog 199 [.bp 0 0, vi m] [.box (Up.rz u.clr)] (bys (u.str m).1) [.box (Up.rz (u.str m).2.clr)] := by
  have h : Does Try.prog 199 [.bp 0 0, vi m] [.box (Up.rz u.clr)] (bys (u.clr.str m).1) [.box (Up.rz (u.clr.str m).2.clr)] := ru_str u.clr.b u.clr.e (Up.clr_nil u) m hm (Up.clr_ok hu).1 (Up.clr_ok hu).2
  rw [(Up.str_clr u m).1, (Up.str_clr u m).2] at h
  exact h
theorem R_close (u : Up) : Does Try.prog 92 [.bp 0 0] [.box (Up.rz u.clr)] (vi u.close) [.box (Up.rz u.clr)] := by
  have h : Does Try.prog 92 [.bp 0 0] [.box (Up.rz u.clr)] (vi u.clr.close) [.box (Up.rz u.clr)] := ru_close u.clr.b u.clr.e (Up.clr_nil u)
  rw [Up.clr_close] at h
  exact h
theorem R_open (b : List Int) (hl : L40 b) : Does Try.prog 89 [bys b] [] (.bp 0 0) [.box (Up.rz (Up.clr ⟨b, 0⟩))] := by
  have h := ru_open b hl
  rw [Up.clr_b rfl]; exact h
end Go.Proofs.Ytanfmpkjcoolmaa.Rd
namespace Go.Proofs.Ytanfmpkjcoolmaa.Rd
end Go.Proofs.Ytanfmpkjcoolmaa.Rd
