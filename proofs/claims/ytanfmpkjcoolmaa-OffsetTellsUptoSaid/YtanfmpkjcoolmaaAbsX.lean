/- Bytes as strings: conversion, equality. -/
import Derived.Test.YtanfmpkjcoolmaaAbsW
import Derived.Test.YtanfmpkjcoolmaaAbsT
import Derived.Laws.BytesArg
import Derived.Laws.Strings
set_option linter.unusedVariables false
set_option linter.unusedSimpArgs false
namespace Go.Abs
variable {P : Program} {N : Nat} {ops : Array Oper} {l : List Oper} {Q : Exit → Tm → List Ob → Prop} {tm : Tm} {S : List Ob}
/-- Every one is a byte. -/
def bytesL (xs : List Int) : Prop := ∀ n ∈ xs, 0 ≤ n ∧ n ≤ 255
theorem byteOf_inj {a b : Int} (ha : 0 ≤ a ∧ a ≤ 255) (hb : 0 ≤ b ∧ b ≤ 255) (h : UInt8.ofNat a.toNat = UInt8.ofNat b.toNat) : a = b := by
  have := congrArg UInt8.toNat h
  simp only [UInt8.toNat_ofNat'] at this
  omega
theorem strOf_inj : ∀ {xs ys : List Int}, bytesL xs → bytesL ys → (xs.map fun n => UInt8.ofNat n.toNat) = (ys.map fun n => UInt8.ofNat n.toNat) → xs = ys
  | [], [], _, _, _ => rfl
  | [], y :: ys, _, _, h => by simp at h
  | x :: xs, [], _, _, h => by simp at h
  | x :: xs, y :: ys, hx, hy, h => by
    simp only [List.map_cons, List.cons.injEq] at h
    rw [byteOf_inj (hx x (by simp)) (hy y (by simp)) h.1, strOf_inj (fun n hn => hx n (by simp [hn])) (fun n hn => hy n (by simp [hn])) h.2]
theorem str_eq {xs ys : List Int} (hx : bytesL xs) (hy : bytesL ys) : ((strOfNums xs).toList == (strOfNums ys).toList) = decide (xs = ys) := by
  rw [ByteArray.toList_eq, ByteArray.toList_eq, strOfNums_data, strOfNums_data]
  by_cases h : xs = ys
  · subst h; simp
  · rw [decide_eq_false h]
    simp only [beq_eq_false_iff_ne, ne_eq]
    exact fun e => h (strOf_inj hx hy e)
section
variable {ty : TypeId} {pos : String} {after : Array Edge} {t : Nat}
theorem n_toStr {src dT e : TypeId} {x : Operand} {nl : Option Bool} {xs : List Int} {c : Cap} (hd : Nat.blt t N = true) (hs : P.underlying src = some (.slice e)) (he : P.underlying e = some (.int .u8)) (hdT : P.underlying dT = some .string) (hx : ev tm x = .sl nl (ints .u8 xs) c)
    (rest : AOps P N ops l Q (put tm t (.val (.string (strOfNums xs)))) S) : AOps P N ops (⟨some t, .convert src dT x, ty, pos, after, none⟩ :: l) Q tm S :=
  AOps.still (o := ⟨some t, .convert src dT x, ty, pos, after, none⟩) (d := .val (.string (strOfNums xs))) rfl hd (fun g a w st => by
    have r := st.ev x
    rw [hx] at r
    generalize hv : a.eval x = v at r
    refine ⟨.string (strOfNums xs), ?_, .val _⟩
    have : (convert src dT v).run P w = .ok (.string (strOfNums xs)) w := by
      cases r with
      | sl st' f hn hcap hnone hnl hst hcell hrep hc =>
        rename_i ao n cap
        rw [ints_length] at hn
        cases ao with
        | none =>
          have h0 := hnone rfl
          have : xs = [] := List.eq_nil_of_length_eq_zero (by omega)
          subst this
          rw [run_convert_bytes_nil w src e hs he n cap dT hdT]
          rfl
        | some ad =>
          have hl : (loadCells ad n).run P w = .ok (xs.map (Value.int .u8)).toArray w := by
            have := run_loadCells_list (P := P) w ad (xs.map (Value.int .u8)) (fun j v hj => by
              rw [List.getElem?_map, Option.map_eq_some_iff] at hj
              obtain ⟨m, hm, rfl⟩ := hj
              have hlt := (List.getElem?_eq_some_iff.1 hm).1
              have hg : (ints .u8 xs)[j]? = some [.val (.int .u8 m)] := by rw [ints, List.getElem?_map, hm]; rfl
              obtain ⟨ad', e1, k1⟩ := hcell j _ hg 0 (.val (.int .u8 m)) rfl
              have e2 := (hrep j _ hg 0 (.val (.int .u8 m)) rfl).val_inv
              have e3 := hst _ (List.mem_of_getElem? hg)
              cases e1
              rw [← e3, List.length_singleton, Nat.mul_one, Nat.add_zero, e2] at k1
              exact k1.1)
            simpa [hn] using this
          rw [run_convert_bytes_string w src dT e _ n cap hs he hdT, run_bytesToString w ad n cap xs hl, foldl_push_bytes]
          simp [strOfNums, ByteArray.empty, ByteArray.emptyWithCapacity]
          rfl
    simp only [execOp, hv]
    rw [Sem.run_bind, this]
    rfl) rest
theorem n_streq {xT yT : TypeId} {x y : Operand} {xs ys : List Int} {b : Bool} (hd : Nat.blt t N = true) (hx : ev tm x = .val (.string (strOfNums xs))) (hy : ev tm y = .val (.string (strOfNums ys))) (hbx : bytesL xs) (hby : bytesL ys) (hb : decide (xs = ys) = b)
    (rest : AOps P N ops l Q (put tm t (.val (.bool b))) S) : AOps P N ops (⟨some t, .binOp .eql xT x y yT, ty, pos, after, none⟩ :: l) Q tm S :=
  n_bin hd hx hy rfl rfl (v := .bool b) (fun w => by
    rw [← hb, ← str_eq hbx hby]
    rfl) rest
theorem n_strne {xT yT : TypeId} {x y : Operand} {xs ys : List Int} {b : Bool} (hd : Nat.blt t N = true) (hx : ev tm x = .val (.string (strOfNums xs))) (hy : ev tm y = .val (.string (strOfNums ys))) (hbx : bytesL xs) (hby : bytesL ys) (hb : (!decide (xs = ys)) = b)
    (rest : AOps P N ops l Q (put tm t (.val (.bool b))) S) : AOps P N ops (⟨some t, .binOp .neq xT x y yT, ty, pos, after, none⟩ :: l) Q tm S :=
  n_bin hd hx hy rfl rfl (v := .bool b) (fun w => by
    rw [← hb, ← str_eq hbx hby]
    rfl) rest
end
end Go.Abs
