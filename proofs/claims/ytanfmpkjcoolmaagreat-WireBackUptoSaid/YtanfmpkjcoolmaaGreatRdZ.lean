/- The readers, told of what is left. -/
import Derived.Test.YtanfmpkjcoolmaaGreatPkZ
import Derived.Test.YtanfmpkjcoolmaaGreatPlainA
import Derived.KernelRfl
set_option linter.unusedVariables false
set_option linter.unusedSimpArgs false
namespace Go.Proofs.YtanfmpkjcoolmaaGreat.Rd
open Go Go.Abs Go.Proofs.YtanfmpkjcoolmaaGreat.Pk
attribute [local irreducible] AWP AOps Does


theorem uw {u : Up} : u.int (-9223372036854775808) 9223372036854775807 = u.w := by unfold Up.w; rfl
theorem uf {u : Up} : u.int 0 1 = u.flag := by unfold Up.flag; rfl
theorem U_int (u : Up) (hu : u.ok) (lo hi : Int) : Does Tryz.prog 50 [.bp 0 0, vi lo, vi hi] [.box (Up.z u)] (vi (u.int lo hi).1) [.box (Up.z (u.int lo hi).2)] := u_int u.b u.e lo hi hu.1 hu.2
theorem U_w (u : Up) (hu : u.ok) : Does Tryz.prog 50 [.bp 0 0, vi (-9223372036854775808), vi 9223372036854775807] [.box (Up.z u)] (vi u.w.1) [.box (Up.z u.w.2)] := by have := U_int u hu (-9223372036854775808) 9223372036854775807; rw [uw] at this; exact this
theorem U_flag (u : Up) (hu : u.ok) : Does Tryz.prog 53 [.bp 0 0] [.box (Up.z u)] (vb (u.flag.1 == 1)) [.box (Up.z u.flag.2)] := by have h : Does Tryz.prog 53 [.bp 0 0] [.box (Up.z u)] (vb ((u.int 0 1).1 == 1)) [.box (Up.z (u.int 0 1).2)] := u_flag u.b u.e hu.1 hu.2; rw [uf] at h; exact h
theorem U_str (u : Up) (hu : u.ok) (m : Int) (hm : -9223372036854775808 ≤ m ∧ m ≤ 9223372036854775807) : Does Tryz.prog 84 [.bp 0 0, vi m] [.box (Up.z u)] (bys (u.str m).1) [.box (Up.z (u.str m).2)] := u_str u.b u.e m hm hu.1 hu.2
theorem U_err (u : Up) : Does Tryz.prog 60 [.bp 0 0] [.box (Up.z u)] (vi u.e) [.box (Up.z u)] := u_err u.b u.e
theorem U_close (u : Up) : Does Tryz.prog 22 [.bp 0 0] [.box (Up.z u)] (vi u.close) [.box (Up.z u)] := u_close u.b u.e
end Go.Proofs.YtanfmpkjcoolmaaGreat.Rd
namespace Go.Proofs.YtanfmpkjcoolmaaGreat.Rd
end Go.Proofs.YtanfmpkjcoolmaaGreat.Rd
