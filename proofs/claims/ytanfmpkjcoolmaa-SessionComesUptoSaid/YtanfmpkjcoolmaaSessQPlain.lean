/- Plain: sessions with what is under way. -/
import Derived.Test.YtanfmpkjcoolmaaSessPlain
import Derived.Test.YtanfmpkjcoolmaaAbsZr
import Derived.Test.YtanfmpkjcoolmaaEventPlain5
set_option linter.unusedVariables false
namespace Go.Abs
structure Sq where
  b : Int
  p : Int
  s : Int
  a : Int
  e : Int
  q : List (List Int)
abbrev qe (y : List Int) : List D := [bys y]
abbrev sqc (x : Sq) (c : Cap) : List D := [vi x.b, vi x.p, vi x.s, vi x.a, vi x.e, .sl none (x.q.map qe) c]
abbrev sqz (x : Sq) : List D := sqc x .ro
theorem qe_lf (y : List Int) : ∀ d ∈ qe y, LF d := fun d hd => by simp only [qe, List.mem_cons, List.not_mem_nil, or_false] at hd; subst hd; exact lf_ints (.inl rfl)
theorem lf_qe {nl : Option Bool} {l : List (List Int)} {c : Cap} (hc : c = .ro ∨ c = .full) : LF (.sl nl (l.map qe) c) := lf_mapG qe_lf hc
theorem ren_qe {ρ σ : Nat → Nat → Prop} {nl : Option Bool} {l : List (List Int)} {c : Cap} : Ren ρ σ (.sl nl (l.map qe) c) (.sl none (l.map qe) .ro) := ren_mapG qe_lf
theorem lf_sqz (x : Sq) : LF (.agg (sqz x)) := .agg (lf_cons (.val _) (lf_cons (.val _) (lf_cons (.val _) (lf_cons (.val _) (lf_cons (.val _) (lf_cons (lf_qe (.inl rfl)) lf_nil))))))
theorem ren_sqz {ρ σ : Nat → Nat → Prop} {nl : Option Bool} {c : Cap} {b p s a e : Int} {q : List (List Int)} {x : Sq} (h : x = ⟨b, p, s, a, e, q⟩) : Ren ρ σ (.agg [vi b, vi p, vi s, vi a, vi e, .sl nl (q.map qe) c]) (.agg (sqz x)) := by
  subst h
  exact .agg rfl (RenAll.get (.cons (.lf (.val _)) (.cons (.lf (.val _)) (.cons (.lf (.val _)) (.cons (.lf (.val _)) (.cons (.lf (.val _)) (.cons ren_qe .nil)))))))
theorem ren_sqz0 {ρ σ : Nat → Nat → Prop} {nl : Option Bool} {c : Cap} {b p s a e : Int} {x : Sq} (h : x = ⟨b, p, s, a, e, []⟩) : Ren ρ σ (.agg [vi b, vi p, vi s, vi a, vi e, .sl nl [] c]) (.agg (sqz x)) := ren_sqz (q := []) h
theorem Does.toRo {P : Program} {f : FuncId} {ds : List D} {r r' : D} {T : List Ob} (h : Does P f ds [] r T) (hv : ∀ g w v, Rep g w v r → Rep g w v r') (hf : LF r') : Does P f ds [] r' [] := by
  intro g w vs hs hsz hr
  refine (h g w vs hs hsz hr).mono ?_
  rintro e w' ⟨v, g', rfl, hv1, hs', hl⟩
  refine ⟨v, g'.cut 0, rfl, (hv g' w' v hv1).un (.lf hf), ?_, hl.cut hs (Nat.le_refl _)⟩
  have := Sim.cut (S := []) (T := T) (by simpa using hs') (fun ob h => by cases h)
  exact this
theorem sq_asRo {x : Sq} {c : Cap} (g : G) (w : World) (v : Value) (r : Rep g w v (.agg (sqc x c))) : Rep g w v (.agg (sqz x)) := by
  cases r with
  | agg hs hrep =>
    refine .agg hs (fun i v d h1 h2 => ?_)
    rcases i with _ | _ | _ | _ | _ | _ | i
    · exact hrep 0 v d h1 h2
    · exact hrep 1 v d h1 h2
    · exact hrep 2 v d h1 h2
    · exact hrep 3 v d h1 h2
    · exact hrep 4 v d h1 h2
    · simp at h2; subst h2
      exact (hrep 5 v _ h1 rfl).asRo
    · simp at h2
theorem splice_same {ds : List D} {i : Nat} {d : D} (h : ds[i]? = some d) : splice ds i [d] = ds := by
  obtain ⟨hi, rfl⟩ := List.getElem?_eq_some_iff.1 h
  unfold splice
  rw [List.length_singleton, List.append_assoc, List.singleton_append, ← List.drop_eq_getElem_cons hi, List.take_append_drop]
theorem qe_flat (l : List (List Int)) : (l.map qe).flatten = l.map bys := by induction l with | nil => rfl | cons a l ih => simp [ih]
theorem q_at {l : List (List Int)} {i : Nat} {y : List Int} {r : List D} (h : l[i]? = some y) : (l.map bys ++ r)[i]? = some (bys y) := by
  rw [List.getElem?_append_left (by rw [List.length_map]; exact (List.getElem?_eq_some_iff.1 h).1), List.getElem?_map, h]; rfl
theorem q_drop {l : List (List Int)} {i : Nat} {y : List Int} {r : List D} (h : l[i]? = some y) : ((l.map bys ++ r).drop i).headD .any = bys y := by
  have := q_at (r := r) h
  rw [← List.head?_drop] at this
  rw [List.headD_eq_head?_getD, this]; rfl
abbrev MX : Int := 9007199254740992
structure Sq.Ok (x : Sq) : Prop where
  b : 1 ≤ x.b ∧ x.b ≤ MX
  p : 0 ≤ x.p ∧ x.p ≤ MX
  s : 0 ≤ x.s ∧ x.s ≤ MX
  a : 0 ≤ x.a ∧ x.a ≤ MX
  e : 1 ≤ x.e ∧ x.e ≤ MX
  d : x.s - x.a = (x.q.length : Int)
  m : x.q.length ≤ 16
  l : ∀ y ∈ x.q, y.length ≤ 131072
def Sq.pk (x : Sq) (n : Int) (l : List Int) : Pq := ⟨x.b, x.p, n, x.e - 1, l⟩
def Sq.meet (x : Sq) (p : Pq) : Sq := if p.b > x.p then ⟨x.b, p.b, 0, 0, 1, []⟩ else x
def Sq.ack (x : Sq) (p : Pq) : Sq := if p.a > x.a ∧ p.a ≤ x.s then { x with q := x.q.drop (p.a - x.a).toNat, a := p.a } else x
def Sq.take (x : Sq) (p : Pq) : Sq × List Int × Bool :=
  if p.b < x.p then (x, [], false)
  else if p.p ≠ (x.meet p).b then (x.meet p, [], false)
  else if p.s ≠ ((x.meet p).ack p).e ∨ ((x.meet p).ack p).e ≥ MX then ((x.meet p).ack p, [], false)
  else ({ (x.meet p).ack p with e := ((x.meet p).ack p).e + 1 }, p.l, true)
def Sq.send (x : Sq) (l : List Int) : Sq := { x with s := x.s + 1, q := x.q ++ [l] }
def Sq.again (x : Sq) : List Pq := (List.range x.q.length).map fun (i : Nat) => x.pk (x.a + (i : Int) + 1) (x.q.getD i [])
theorem Sq.again_at {x : Sq} {i : Nat} {l : List Int} (h : x.q[i]? = some l) : x.again[i]? = some (x.pk (x.a + (i : Int) + 1) l) := by
  have hi := (List.getElem?_eq_some_iff.1 h).1
  unfold again
  rw [List.getElem?_map, List.getElem?_range hi]
  simp [List.getD_eq_getElem?_getD, h]
theorem Sq.again_len {x : Sq} : x.again.length = x.q.length := by simp [again]
theorem sqz_lf (x : Sq) : ∀ d ∈ sqz x, LF d := lf_cons (.val _) (lf_cons (.val _) (lf_cons (.val _) (lf_cons (.val _) (lf_cons (.val _) (lf_cons (lf_qe (.inl rfl)) lf_nil)))))
theorem pqz_lf (x : Pq) : ∀ d ∈ pqz x, LF d := lf_cons (.val _) (lf_cons (.val _) (lf_cons (.val _) (lf_cons (.val _) (lf_cons (lf_ints (.inl rfl)) lf_nil))))
theorem ren_pqs {ρ σ : Nat → Nat → Prop} {nl : Option Bool} {l : List Pq} {c : Cap} : Ren ρ σ (.sl nl (l.map pqz) c) (.sl none (l.map pqz) .ro) := ren_mapG pqz_lf
end Go.Abs
