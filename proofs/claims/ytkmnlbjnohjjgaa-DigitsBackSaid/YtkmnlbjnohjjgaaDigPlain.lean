/-
  Digits, plain: the digits of a number, and what Number tells of them.
-/
import Derived.Test.YtkmnlbjnohjjgaaNum
import Derived.Laws.BytesArg
namespace Go.Proofs.Ytkmnlbjnohjjgaa
open Go.RowKit
set_option linter.unusedVariables false
set_option linter.unusedSimpArgs false

/-! ### bytes and strings -/
def isB (l : List Int) : Prop := ∀ x ∈ l, 0 ≤ x ∧ x < 256
theorem isB_append {l r : List Int} (h : isB l) (h' : isB r) : isB (l ++ r) := fun x hx => (List.mem_append.1 hx).elim (h x) (h' x)
theorem str_size (L : List Int) : (strOfNums L).size = L.length := by
  show (strOfNums L).data.size = _
  simp [strOfNums]
theorem str_data (L : List Int) : (strOfNums L).data.toList = L.map (fun n => UInt8.ofNat n.toNat) := by simp [strOfNums]
theorem bytes_eq {a b : ByteArray} (h : a.data.toList = b.data.toList) : a = b := by
  cases a; cases b
  congr 1
  exact Array.toList_inj.1 h
theorem str_append (L M : List Int) : strOfNums (L ++ M) = strOfNums L ++ strOfNums M := by
  apply bytes_eq
  rw [str_data, ByteArray.data_append, Array.toList_append, str_data, str_data, List.map_append]
theorem str_drop1 (x : Int) (L : List Int) : (strOfNums (x :: L)).extract 1 (strOfNums (x :: L)).size = strOfNums L := by
  apply bytes_eq
  rw [str_size, ByteArray.data_extract, Array.toList_extract, str_data, str_data]
  simp only [List.extract_eq_take_drop, List.length_cons, List.map_cons, List.drop_succ_cons, List.drop_zero, Nat.add_sub_cancel]
  exact List.take_of_length_le (by simp)
theorem bt_str {L : List Int} (h : isB L) (i : Nat) : bt (strOfNums L) i = L[i]?.getD 0 := by
  unfold bt
  by_cases hi : i < L.length
  · rw [dif_pos (by rw [str_size]; exact hi), List.getElem?_eq_getElem hi]
    have hr := h L[i] (List.getElem_mem hi)
    have e : (strOfNums L)[i]'(by rw [str_size]; exact hi) = UInt8.ofNat (L[i].toNat) := by
      show (strOfNums L).data[i]'_ = _
      simp [strOfNums]
    rw [e, UInt8.toNat_ofNat']
    simp only [Option.getD_some]
    omega
  · rw [dif_neg (by rw [str_size]; exact hi), List.getElem?_eq_none (by omega)]
    rfl

/-! ### reading -/
def valL (b : Int) (L : List Int) (n : Int) : Int := L.foldl (fun n c => wrap64 (wrap64 (n * b) + worthR c)) n
theorem valL_one (b c n : Int) : valL b [c] n = wrap64 (wrap64 (n * b) + worthR c) := by rw [valL, List.foldl_cons, List.foldl_nil]
theorem valL_append (b : Int) (L M : List Int) (n : Int) : valL b (L ++ M) n = valL b M (valL b L n) := by rw [valL, List.foldl_append]; rfl
theorem readB_list {L : List Int} (h : isB L) (b : Int) (hw : ∀ c ∈ L, worthR c < b) : ∀ (r i : Nat) (n : Int), L.length - i = r → readB (strOfNums L) b i n = some (valL b (L.drop i) n)
  | r, i, n, hr => by
    by_cases hi : i < L.length
    · have hc : bt (strOfNums L) i = L[i] := by rw [bt_str h, List.getElem?_eq_getElem hi]; rfl
      have hlt := hw L[i] (List.getElem_mem hi)
      rw [readB_go (by rw [str_size]; exact hi) (by rw [hc]; omega), hc, readB_list h b hw (L.length - (i + 1)) (i + 1) _ rfl, List.drop_eq_getElem_cons hi]
      rfl
    · rw [readB_end (by rw [str_size]; exact hi), List.drop_of_length_le (by omega)]
      rfl
  termination_by r => r
  decreasing_by omega
theorem wrap_cong {a b : Int} (h : a % 18446744073709551616 = b % 18446744073709551616) : wrap64 a = wrap64 b := by unfold wrap64; omega
theorem wrap_mod (a : Int) : wrap64 a % 18446744073709551616 = a % 18446744073709551616 := by unfold wrap64; omega
theorem wrap_step (x b d : Int) : wrap64 (wrap64 (wrap64 x * b) + d) = wrap64 (x * b + d) := by
  apply wrap_cong
  rw [Int.add_emod, wrap_mod, Int.mul_emod, wrap_mod, ← Int.mul_emod, ← Int.add_emod]

/-! ### writing -/
def digC (d : Nat) : Int := if d < 10 then 48 + d else 55 + d
/-- The same in small letters. -/
def digL (d : Nat) : Int := if d < 10 then 48 + d else 87 + d
theorem worth_digC {d : Nat} (h : d < 36) : worthR (digC d) = d := by unfold worthR digC; repeat' split <;> omega
theorem worth_digL {d : Nat} (h : d < 36) : worthR (digL d) = d := by unfold worthR digL; repeat' split <;> omega
def digs (b : Nat) : Nat → Nat → List Nat
  | 0, _ => []
  | k + 1, z => if z / b = 0 then [z % b] else digs b k (z / b) ++ [z % b]
theorem digs_lt {b : Nat} (hb : 0 < b) : ∀ k z, ∀ d ∈ digs b k z, d < b
  | 0, _, d, h => by cases h
  | k + 1, z, d, h => by
    rw [digs] at h
    split at h
    · rcases List.mem_cons.1 h with rfl | h
      · exact Nat.mod_lt _ hb
      · cases h
    · rcases List.mem_append.1 h with h | h
      · exact digs_lt hb k _ d h
      · rcases List.mem_cons.1 h with rfl | h
        · exact Nat.mod_lt _ hb
        · cases h
theorem digs_ne {b : Nat} : ∀ k z, digs b (k + 1) z ≠ [] := by
  intro k z h
  rw [digs] at h
  split at h
  · cases h
  · simp at h
theorem digs_len {b : Nat} : ∀ k z, (digs b k z).length ≤ k
  | 0, _ => Nat.le_refl _
  | k + 1, z => by
    have := digs_len (b := b) k (z / b)
    rw [digs]
    split
    · simp
    · simp; omega
theorem div_pow {b z k : Nat} (hb : 2 ≤ b) (h : z < 2 ^ (k + 1)) : z / b < 2 ^ k := by
  rw [Nat.pow_succ] at h
  have h2 : z / b ≤ z / 2 := Nat.div_le_div_left hb (by omega)
  omega
/-- Read again, a number's digits are the number. -/
theorem val_digs {b : Nat} (hb : 2 ≤ b) (f : Nat → Int) (hf : ∀ d, d < b → worthR (f d) = d) (k : Nat) : ∀ z, z < 2 ^ k → valL (b : Int) ((digs b (k + 1) z).map f) 0 = wrap64 (z : Int) := by
  have w0 : wrap64 0 = 0 := wrap64_of (by decide) (by decide)
  induction k with
  | zero =>
    intro z h
    have hz : z = 0 := by omega
    subst hz
    rw [digs, if_pos (Nat.zero_div b), Nat.zero_mod]
    rw [List.map_cons, List.map_nil, valL_one, hf 0 (by omega), Int.zero_mul, w0, Int.zero_add]
  | succ k ihk =>
    intro z h
    rw [digs]
    have hm : z % b < b := Nat.mod_lt _ (Nat.lt_of_lt_of_le Nat.zero_lt_two hb)
    split
    · rename_i h0
      have hz : z % b = z := Nat.mod_eq_of_lt (by
        rcases Nat.lt_or_ge z b with h1 | h1
        · exact h1
        · have h2 := Nat.div_pos h1 (Nat.lt_of_lt_of_le Nat.zero_lt_two hb)
          rw [h0] at h2
          exact absurd h2 (Nat.lt_irrefl 0))
      rw [List.map_cons, List.map_nil, valL_one, hf _ hm, hz, Int.zero_mul, w0, Int.zero_add]
    · have ih := ihk (z / b) (div_pow hb h)
      rw [List.map_append, valL_append, ih, List.map_cons, List.map_nil, valL_one, hf _ hm, wrap_step]
      have e : ((z / b : Nat) : Int) * (b : Int) + ((z % b : Nat) : Int) = (z : Int) := by
        rw [← Int.natCast_mul, ← Int.natCast_add, Nat.mul_comm, Nat.div_add_mod]
      rw [e]

/-- What Number tells of a mark, a sign and digits. -/
theorem num_digits (m : Option Int) (neg : Bool) (D : List Int) (b bb : Int) (hD : D ≠ []) (hB : isB D) (hw : ∀ c ∈ D, worthR c < bb) (hbb : bb ≤ 36)
    (hm : ∀ x, m = some x → 0 ≤ x ∧ x < 256 ∧ ¬ x = 39 ∧ 0 < markOf x ∧ markOf x = bb) (hm0 : m = none → baseOf b = bb) :
    numAll (strOfNums (m.toList ++ ((if neg = true then [45] else []) ++ D))) b = (wrap64 ((if neg = true then -1 else 1) * valL bb D 0), true) := by
  obtain ⟨c, D', rfl⟩ : ∃ c D', D = c :: D' := by
    rcases D with _ | ⟨c, D'⟩
    · exact absurd rfl hD
    · exact ⟨c, D', rfl⟩
  have hc : worthR c < 36 := by have := hw c (List.mem_cons_self ..); omega
  have hcr := hB c (List.mem_cons_self ..)
  have hc48 : 48 ≤ c := by
    rcases Int.lt_or_le c 48 with h | h
    · exfalso
      have : worthR c = 36 := by unfold worthR; rw [if_neg (by omega), if_neg (by omega), if_neg (by omega)]
      omega
    · exact h
  have hmk : markOf c = 0 := by unfold markOf; rw [if_neg (by omega), if_neg (by omega), if_neg (by omega)]
  have h45 : markOf 45 = 0 := by decide
  have hrd := readB_list hB bb hw _ 0 0 rfl
  rw [List.drop_zero] at hrd
  -- the sign and the digits
  have hneg : ∀ (L : List Int), L = (if neg = true then [45] else []) ++ c :: D' → isB L ∧ 0 < (strOfNums L).size ∧ markOf (bt (strOfNums L) 0) = 0 ∧ ¬ bt (strOfNums L) 0 = 39 ∧ decide (0 < (strOfNums L).size ∧ bt (strOfNums L) 0 = 45) = neg ∧
      (if neg = true then (strOfNums L).extract 1 (strOfNums L).size else strOfNums L) = strOfNums (c :: D') := by
    intro L hL
    have hLB : isB L := by
      subst hL
      refine isB_append ?_ hB
      cases neg
      · intro x hx; simp at hx
      · intro x hx; simp at hx; omega
    cases neg
    · have e : L = c :: D' := hL
      subst e
      have hb : bt (strOfNums (c :: D')) 0 = c := by rw [bt_str hLB]; rfl
      refine ⟨hLB, by rw [str_size]; simp, by rw [hb]; exact hmk, by rw [hb]; omega, ?_, rfl⟩
      rw [hb]
      simp; omega
    · have e : L = 45 :: c :: D' := hL
      subst e
      have hb : bt (strOfNums (45 :: c :: D')) 0 = 45 := by rw [bt_str hLB]; rfl
      refine ⟨hLB, by rw [str_size]; simp, by rw [hb]; exact h45, by rw [hb]; decide, ?_, ?_⟩
      · rw [hb, str_size]; simp
      · rw [if_pos rfl, str_drop1]
  generalize hL : (if neg = true then [45] else []) ++ c :: D' = L at *
  obtain ⟨hLB, hL0, hLm, hL39, hLn, hLs⟩ := hneg L rfl
  have hfin : numRes (if neg = true then -1 else 1) (strOfNums (c :: D')) bb = (wrap64 ((if neg = true then -1 else 1) * valL bb (c :: D') 0), true) := by
    rw [numRes_yes hrd, nil_no (by rw [str_size]; simp)]
    rfl
  unfold numAll
  cases m with
  | none =>
    have e : (none : Option Int).toList ++ L = L := rfl
    rw [e, if_neg (fun h => hL39 h.2.1)]
    have hma : markAt (strOfNums L) = 0 := by unfold markAt; rw [if_pos hL0, hLm]
    simp only [hma, show ¬ (0 : Int) < 0 by omega, if_false, hLn, hLs, hm0 rfl]
    exact hfin
  | some x =>
    obtain ⟨hx0, hx1, hx39, hxm, hxb⟩ := hm x rfl
    have e : (some x : Option Int).toList ++ L = x :: L := rfl
    have hxL : isB (x :: L) := fun y hy => by
      rcases List.mem_cons.1 hy with rfl | hy
      · exact ⟨hx0, hx1⟩
      · exact hLB y hy
    have hb : bt (strOfNums (x :: L)) 0 = x := by rw [bt_str hxL]; rfl
    have hsz : 0 < (strOfNums (x :: L)).size := by rw [str_size]; simp
    have hma : markAt (strOfNums (x :: L)) = bb := by unfold markAt; rw [if_pos hsz, hb, hxb]
    rw [e, if_neg (fun h => hx39 (by rw [← hb]; exact h.2.1))]
    have hbpos : (0 : Int) < bb := by omega
    simp only [hma, hbpos, if_true, str_drop1, hLn, hLs]
    exact hfin
end Go.Proofs.Ytkmnlbjnohjjgaa
