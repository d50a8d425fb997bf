/-
  root: must; the closures put and num.
-/
import Derived.Test.YtghpnhiliihlaaaLe
import Derived.Test.YtghpnhiliihlaaaLeCrc
import Derived.Test.YtghpnhiliihlaaaPRootReadsx
import Derived.Lib.Hide
import Derived.Defers
import Derived.Recover
namespace Go.Proofs.Ytghpnhiliihlaaa.Root
open Go.RowKit Go.Shelf Go.Proofs.Ytghpnhiliihlaaa
attribute [local go_sem] Oper.semAt_some
set_option linter.unusedVariables false
set_option linter.unusedSimpArgs false

theorem must_yes (w : World) : Calls Try.prog 47 #[.bool true] w fun e w' => e = .returned (.tuple #[]) ∧ w = w' := by
  go_enter Try.func47, Try.ntmps47
  go_wp2
  go_end0
  exact ⟨rfl, rfl⟩
def wrongV : PanicEntry := { v := .iface 66 (.agg #[]), recovered := false }
theorem must_no (w : World) : Calls Try.prog 47 #[.bool false] w fun e w' => e = .panicked [wrongV] ∧ w = w' := by
  go_enter Try.func47, Try.ntmps47
  go_wp2
  simp [bodyPost, wrongV]
theorem u64_of {z : Int} (h0 : 0 ≤ z) (h1 : z < 18446744073709551616) : IntKind.u64.wrap z = z := by
  simp [IntKind.wrap, IntKind.bits, IntKind.signed]
  omega
theorem ownFar {w : World} {base : Nat} {v : Value} {bs : List Int} (h : OwnBytes w base v bs) {g : Nat} {cs : Array Value} {t : TypeId} (hg : w.heap[g]? = some (.cells cs t (0, 0))) (ht : t ≠ 5) (i : Nat) (x : Value) : OwnBytes (w.setCell ⟨g, i, none⟩ x) base v bs :=
  h.blk fun g' cur hc _ => heap_setCell_other w _ g' x (fun e => by
    have e : g' = g := e
    subst e
    rw [hg] at hc
    injection hc with hc
    injection hc with _ e2 _
    exact ht e2)
theorem heap_set2 (w : World) (g i : Nat) (x : Value) (g' : Nat) (h : g' ≠ g) : (w.setCell ⟨g, i, none⟩ x).heap[g']? = w.heap[g']? := heap_setCell_other w _ g' x h
set_option maxHeartbeats 1000000 in
theorem put_any (gb ga base : Nat) (A : Option Addr) (n c : Nat) (bs : List Int) (a size z : Int) (w : World) (hb : w.heap[gb]? = some (.cells #[.slice A n c] 22 (0, 0))) (ha : w.heap[ga]? = some (.cells #[.int .i64 a] 3 (0, 0)))
    (hown : OwnBytes w base (.slice A n c) bs) (hr : ∀ x ∈ bs, 0 ≤ x ∧ x < 256) (hbase : base ≤ w.heap.size) (hn : n ≤ 140737488351232) (ha0 : 0 ≤ a) (hs0 : 0 ≤ size) (has : a + size ≤ 1000) :
    Calls Try.prog 43 #[.int .i64 size, .int .u64 z, .pointer (some ⟨gb, 0, none⟩), .pointer (some ⟨ga, 0, none⟩)] w fun e w' => e = .returned (.tuple #[]) ∧
      (∃ A' c', w'.heap[gb]? = some (.cells #[.slice A' n c'] 22 (0, 0)) ∧ OwnBytes w' base (.slice A' n c') (putTo bs a z (rounds8 size))) ∧
      w'.heap[ga]? = some (.cells #[.int .i64 (a + size)] 3 (0, 0)) ∧ (∀ g, g < w.heap.size → g ≠ gb → g ≠ ga → w'.heap[g]? = w.heap[g]?) ∧ ∀ B, B ≤ gb → B ≤ ga → Below B w w' := by
  have hne : gb ≠ ga := fun e => by subst e; rw [hb] at ha; injection ha with ha; injection ha with _ e2 _; revert e2; decide
  have hcb := cell_one hb
  have hca := cell_one ha
  have hfb := frozen_blk hb 0
  have hfa := frozen_blk ha 0
  have hnx : wrap64 (a + size) = a + size := wrap64_of (by omega) (by omega)
  go_enter Try.func43, Try.ntmps43
  go_wp2_with fail
  refine (putNum_any A n c bs a size z hn (by omega) (by omega) w (hown.at_ hr)).mono ?_
  rintro e w1 ⟨⟨A', c', rfl, hown1⟩, hb1⟩
  have hgb := blk_lt hb
  have hga := blk_lt ha
  have hb2 := blk_below hb hb1 hgb
  have ha2 := blk_below ha hb1 hga
  have hcb2 := cell_one hb2
  have hca2 := cell_one ha2
  have hfb2 := frozen_blk hb2 0
  have hfa2 := frozen_blk ha2 0
  clear hcb hca hfb hfa
  go_wp2_with fail
  go_end0
  have hb3 : (w1.setCell ⟨gb, 0, none⟩ (.slice A' n c')).heap[gb]? = some (.cells #[.slice A' n c'] 22 (0, 0)) := heap_setCell_same w1 gb 0 _ 22 _ hb2
  have ha3 : (w1.setCell ⟨gb, 0, none⟩ (.slice A' n c')).heap[ga]? = some (.cells #[.int .i64 a] 3 (0, 0)) := (heap_set2 _ _ _ _ _ hne.symm).trans ha2
  refine ⟨rfl, ⟨A', c', (heap_set2 _ _ _ _ _ hne).trans hb3, ownFar (ownFar (hown1.base_le hbase) hb2 (by decide) _ _) ha3 (by decide) _ _⟩, heap_setCell_same _ ga 0 _ 3 _ ha3, fun g hg h1 h2 => ?_, fun B hB1 hB2 => ?_⟩
  · exact (heap_set2 _ _ _ _ _ h2).trans ((heap_set2 _ _ _ _ _ h1).trans (hb1.block g hg))
  · exact ((hb1.mono (by omega)).setCell (by simpa using hB1) _).setCell (by simpa using hB2) _

/-! ### The plain sides -/
abbrev S63 := PRootReads.S63
abbrev z63 := PRootReads.z63
def okSnap (g : Int) (l : List S63) (i : Nat) : Prop :=
  0 ≤ (l.getD i z63).f1 ∧ (l.getD i z63).f1 ≠ 1 ∧ (l.getD i z63).f1 < 2000 ∧ (l.getD i z63).f0 ≤ g ∧ (0 < i → (l.getD (i - 1) z63).f0 < (l.getD i z63).f0)
instance (g : Int) (l : List S63) (i : Nat) : Decidable (okSnap g l i) := by unfold okSnap; exact inferInstance
def okRoot (g : Int) (l : List S63) : Prop := 0 < l.length ∧ l.length ≤ 4 ∧ ∀ i, i < l.length → okSnap g l i
instance (g : Int) (l : List S63) : Decidable (okRoot g l) := by unfold okRoot; exact inferInstance
theorem rd_at (l : List S63) (i : Nat) : PRootReads.rd_T63 l (i : Int) = l.getD i z63 := by
  unfold PRootReads.rd_T63; rw [Int.toNat_natCast]
theorem wrap_nat {i : Nat} (h : i ≤ 140737488351232) : wrap64 ((i : Int) + 1) = ((i + 1 : Nat) : Int) := by rw [wrap64_of] <;> omega
theorem wrap_pre {i : Nat} (h : i ≤ 140737488351232) (h0 : 0 < i) : wrap64 ((i : Int) - 1) = ((i - 1 : Nat) : Int) := by rw [wrap64_of] <;> omega
theorem some_false {p : Prop} [Decidable p] (h : ¬ p) : some false = some (decide p) := by rw [decide_eq_false h]
theorem some_true {p : Prop} [Decidable p] (h : p) : some true = some (decide p) := by rw [decide_eq_true h]
theorem may_loop (g : Int) (l : List S63) (hl : l.length ≤ 140737488351232) : ∀ (m i : Nat), l.length - i = m → i ≤ l.length → (∀ j, j < i → okSnap g l j) → ∀ k, m < k →
    PRootReads.carrelref03_may.l0 k l (l.length : Int) (i : Int) g l = some (decide (∀ j, j < l.length → okSnap g l j))
  | 0, i, hm, hi, hj, k, hk => by
    obtain ⟨k, rfl⟩ : ∃ q, k = q + 1 := ⟨k - 1, by omega⟩
    obtain rfl : i = l.length := by omega
    simp only [PRootReads.carrelref03_may.l0]
    rw [if_neg (by omega)]
    exact some_true hj
  | m + 1, i, hm, hi, hj, k, hk => by
    obtain ⟨k, rfl⟩ : ∃ q, k = q + 1 := ⟨k - 1, by omega⟩
    have hlt : i < l.length := by omega
    simp only [PRootReads.carrelref03_may.l0]
    rw [if_pos (by omega), if_pos (by omega), if_pos (by omega), rd_at]
    by_cases c1 : (l.getD i z63).f1 < 0
    · rw [if_pos c1]; exact some_false (fun h => by have := (h i hlt).1; omega)
    rw [if_neg c1]
    by_cases c2 : (l.getD i z63).f1 = 1
    · rw [if_pos c2]; exact some_false (fun h => by have := (h i hlt).2.1; omega)
    rw [if_neg c2]
    by_cases c3 : (l.getD i z63).f1 ≥ 2000
    · rw [if_pos c3]; exact some_false (fun h => by have := (h i hlt).2.2.1; omega)
    rw [if_neg c3]
    by_cases c4 : (l.getD i z63).f0 > g
    · rw [if_pos c4]; exact some_false (fun h => by have := (h i hlt).2.2.2.1; omega)
    rw [if_neg c4, wrap_nat (by omega)]
    by_cases c5 : (i : Int) > 0
    · rw [if_pos c5, wrap_pre (by omega) (by omega), if_pos (by omega), if_pos (by omega), rd_at]
      by_cases c6 : (l.getD i z63).f0 ≤ (l.getD (i - 1) z63).f0
      · rw [if_pos c6]; exact some_false (fun h => by have := (h i hlt).2.2.2.2 (by omega); omega)
      · rw [if_neg c6]
        refine may_loop g l hl m (i + 1) (by omega) hlt (fun j hj' => ?_) k (by omega)
        rcases Nat.lt_or_ge j i with h | h
        · exact hj j h
        · obtain rfl : j = i := by omega
          exact ⟨by omega, c2, by omega, by omega, fun _ => by omega⟩
    · rw [if_neg c5]
      refine may_loop g l hl m (i + 1) (by omega) hlt (fun j hj' => ?_) k (by omega)
      rcases Nat.lt_or_ge j i with h | h
      · exact hj j h
      · obtain rfl : j = i := by omega
        exact ⟨by omega, c2, by omega, by omega, fun _ => by omega⟩
theorem may_is (g : Int) (l : List S63) (hl : l.length ≤ 140737488351232) : PRootReads.carrelref03_may.f (l.length + 2) g l = some (decide (okRoot g l)) := by
  unfold PRootReads.carrelref03_may.f
  by_cases c1 : (l.length : Int) < 1
  · rw [if_pos c1]
    simp only [PRootReads.carrelref03_may.j0]
    exact some_false (fun h => by have := h.1; omega)
  rw [if_neg c1]
  simp only [PRootReads.carrelref03_may.j0, decide_eq_true_eq]
  by_cases c2 : (l.length : Int) > 4
  · rw [if_pos c2]
    exact some_false (fun h => by have := h.2.1; omega)
  rw [if_neg c2]
  have := may_loop g l hl l.length 0 (by omega) (by omega) (fun j hj => absurd hj (Nat.not_lt_zero j)) (l.length + 1) (by omega)
  rw [Int.natCast_zero] at this
  rw [this]
  congr 1
  apply Bool.eq_iff_iff.2
  rw [decide_eq_true_eq, decide_eq_true_eq]
  exact ⟨fun h => ⟨by omega, by omega, h⟩, fun h => h.2.2⟩
def preSnap (l : List S63) (i : Nat) : Prop :=
  0 ≤ (l.getD i z63).f1 ∧ (l.getD i z63).f1 ≠ 1 ∧ (l.getD i z63).f1 < 2000 ∧ (0 < i → (l.getD (i - 1) z63).f0 < (l.getD i z63).f0)
theorem okSnap.pre {g : Int} {l : List S63} {i : Nat} (h : okSnap g l i) : preSnap l i := ⟨h.1, h.2.1, h.2.2.1, h.2.2.2.2⟩
def lastOf (l : List S63) (i : Nat) : Int := if i = 0 then 0 else (l.getD (i - 1) z63).f0
theorem up_to (l : List S63) (n : Nat) (h : ∀ j, j < n → preSnap l j) : ∀ d j, j + d < n → (l.getD j z63).f0 ≤ (l.getD (j + d) z63).f0
  | 0, j, _ => Int.le_refl _
  | d + 1, j, hj => by
    have h1 := up_to l n h d j (by omega)
    have h2 := (h (j + (d + 1)) hj).2.2.2 (by omega)
    rw [show j + (d + 1) - 1 = j + d by omega] at h2
    omega
theorem fits_loop (g : Int) (l : List S63) (hl : l.length ≤ 140737488351232) : ∀ (m i : Nat), l.length - i = m → i ≤ l.length → (∀ j, j < i → preSnap l j) → ∀ k, m < k →
    PRootReads.root_fits.l0 k (lastOf l i) l (l.length : Int) (i : Int) g l = some (decide (okRoot g l))
  | 0, i, hm, hi, hj, k, hk => by
    obtain ⟨k, rfl⟩ : ∃ q, k = q + 1 := ⟨k - 1, by omega⟩
    obtain rfl : i = l.length := by omega
    simp only [PRootReads.root_fits.l0]
    rw [if_neg (by omega)]
    by_cases c1 : (l.length : Int) > 0
    · rw [if_pos c1]
      by_cases c2 : (l.length : Int) ≤ 4
      · rw [if_pos c2]
        unfold lastOf
        rw [if_neg (by omega)]
        congr 1
        apply Bool.eq_iff_iff.2
        rw [decide_eq_true_eq, decide_eq_true_eq]
        refine ⟨fun h => ⟨by omega, by omega, fun j hjl => ?_⟩, fun h => (h.2.2 (l.length - 1) (by omega)).2.2.2.1⟩
        have h1 := hj j hjl
        have h2 := up_to l l.length hj (l.length - 1 - j) j (by omega)
        rw [show j + (l.length - 1 - j) = l.length - 1 by omega] at h2
        exact ⟨h1.1, h1.2.1, h1.2.2.1, by omega, h1.2.2.2⟩
      · rw [if_neg c2]; exact some_false (fun h => by have := h.2.1; omega)
    · rw [if_neg c1]; exact some_false (fun h => by have := h.1; omega)
  | m + 1, i, hm, hi, hj, k, hk => by
    obtain ⟨k, rfl⟩ : ∃ q, k = q + 1 := ⟨k - 1, by omega⟩
    have hlt : i < l.length := by omega
    simp only [PRootReads.root_fits.l0]
    rw [if_pos (by omega), if_pos (by omega), if_pos (by omega), rd_at]
    by_cases c1 : (l.getD i z63).f1 < 0
    · rw [if_pos c1]; exact some_false (fun h => by have := (h.2.2 i hlt).1; omega)
    rw [if_neg c1]
    by_cases c2 : (l.getD i z63).f1 = 1
    · rw [if_pos c2]; exact some_false (fun h => by have := (h.2.2 i hlt).2.1; omega)
    rw [if_neg c2]
    by_cases c3 : (l.getD i z63).f1 ≥ 2000
    · rw [if_pos c3]; exact some_false (fun h => by have := (h.2.2 i hlt).2.2.1; omega)
    rw [if_neg c3, wrap_nat (by omega)]
    have hnext : lastOf l (i + 1) = (l.getD i z63).f0 := by unfold lastOf; rw [if_neg (by omega)]; rfl
    by_cases c5 : (i : Int) > 0
    · rw [if_pos c5]
      have hl : lastOf l i = (l.getD (i - 1) z63).f0 := by unfold lastOf; rw [if_neg (by omega)]
      by_cases c6 : (l.getD i z63).f0 ≤ lastOf l i
      · rw [if_pos c6]; exact some_false (fun h => by have := (h.2.2 i hlt).2.2.2.2 (by omega); omega)
      · rw [if_neg c6, ← hnext]
        refine fits_loop g l ‹_› m (i + 1) (by omega) hlt (fun j hj' => ?_) k (by omega)
        rcases Nat.lt_or_ge j i with h | h
        · exact hj j h
        · obtain rfl : j = i := by omega
          exact ⟨by omega, c2, by omega, fun _ => by omega⟩
    · rw [if_neg c5, ← hnext]
      refine fits_loop g l hl m (i + 1) (by omega) hlt (fun j hj' => ?_) k (by omega)
      rcases Nat.lt_or_ge j i with h | h
      · exact hj j h
      · obtain rfl : j = i := by omega
        exact ⟨by omega, c2, by omega, fun _ => by omega⟩
theorem fits_is (g : Int) (l : List S63) (hl : l.length ≤ 140737488351232) : PRootReads.root_fits.f (l.length + 1) g l = some (decide (okRoot g l)) := by
  have := fits_loop g l hl l.length 0 (by omega) (by omega) (fun j hj => absurd hj (Nat.not_lt_zero j)) (l.length + 1) (by omega)
  rw [Int.natCast_zero] at this
  exact this
/-- A row of checkpoints that is read. -/
def SnapsAt (w : World) (A : Option Addr) (l : List S63) : Prop := Go.Proofs.YtghpnhiliihlaaaW.PrintWords.Kd.C PRootReads.k63 w A l.length l
theorem SnapsAt.below {w w' : World} {A : Option Addr} {l : List S63} (h : SnapsAt w A l) (hb : Below w.heap.size w w') : SnapsAt w' A l := Go.Proofs.YtghpnhiliihlaaaW.PrintWords.Kd.C_below h hb
theorem fits_any (g : Int) (A : Option Addr) (c : Nat) (l : List S63) (w : World) (h : SnapsAt w A l) (hc : l.length ≤ c) (hl : l.length ≤ 140737488351232) :
    Calls Try.prog 42 #[.agg #[.int .u64 g, .slice A l.length c]] w fun e w' => e = .returned (.bool (decide (okRoot g l))) ∧ Below w.heap.size w w' :=
  PRootReads.root_fits.calls _ g A c l _ w h hc (fits_is g l hl)
theorem may_any (g : Int) (A : Option Addr) (c : Nat) (l : List S63) (w : World) (h : SnapsAt w A l) (hc : l.length ≤ c) (hl : l.length ≤ 140737488351232) :
    Calls Try.prog 44 #[.agg #[.int .u64 g, .slice A l.length c]] w fun e w' => e = .returned (.bool (decide (okRoot g l))) ∧ Below w.heap.size w w' :=
  PRootReads.carrelref03_may.calls _ g A c l _ w h hc (may_is g l hl)
end Go.Proofs.Ytghpnhiliihlaaa.Root
