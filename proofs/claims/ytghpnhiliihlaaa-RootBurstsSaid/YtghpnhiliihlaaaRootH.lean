/-
  root: both Decodes alike; roots alike.
-/
import Derived.Test.YtghpnhiliihlaaaRootE
import Derived.Test.YtghpnhiliihlaaaRootF
import Derived.Test.YtghpnhiliihlaaaRootG
namespace Go.Proofs.Ytghpnhiliihlaaa.Root
open Go.RowKit Go.Shelf Go.Proofs.Ytghpnhiliihlaaa
open Go.Proofs.YtghpnhiliihlaaaW.PrintWords (Kd)
attribute [local go_sem] Oper.semAt_some
set_option linter.unusedVariables false
set_option linter.unusedSimpArgs false

instance : DecidableEq S63 := fun a b => decidable_of_iff (a.f0 = b.f0 ∧ a.f1 = b.f1) ⟨fun h => by cases a; cases b; cases h.1; cases h.2; rfl, fun h => by subst h; exact ⟨rfl, rfl⟩⟩
open Classical in
/-- What Decode answers. -/
noncomputable def decG (bs : List Int) : Int := if recOk bs then genOf bs else 0
open Classical in
noncomputable def decL (bs : List Int) : List S63 := if recOk bs then snapsOf bs (manyOf bs) else []
open Classical in
noncomputable def decE (bs : List Int) : Int := if recOk bs then 0 else 30
theorem decG_yes {bs : List Int} (h : recOk bs) : decG bs = genOf bs := if_pos h
theorem decL_yes {bs : List Int} (h : recOk bs) : decL bs = snapsOf bs (manyOf bs) := if_pos h
theorem decE_yes {bs : List Int} (h : recOk bs) : decE bs = 0 := if_pos h
theorem decG_no {bs : List Int} (h : ¬ recOk bs) : decG bs = 0 := if_neg h
theorem decL_no {bs : List Int} (h : ¬ recOk bs) : decL bs = [] := if_neg h
theorem decE_no {bs : List Int} (h : ¬ recOk bs) : decE bs = 30 := if_neg h
theorem decE_zero {bs : List Int} : decE bs = 0 ↔ recOk bs := by
  by_cases h : recOk bs
  · rw [decE_yes h]; simp [h]
  · rw [decE_no h]; simp [h]
theorem decL_le (bs : List Int) : (decL bs).length ≤ 4 := by
  by_cases h : recOk bs
  · rw [decL_yes h, snapsOf_length]; exact h.many
  · rw [decL_no h]; simp
/-- A root value: its generation, its row of checkpoints, made by the call. -/
def RootIs (w : World) (base : Nat) (v : Value) (g : Int) (l : List S63) : Prop := ∃ A c, v = .agg #[.int .u64 g, .slice A l.length c] ∧ OwnSnaps w base (.slice A l.length c) l
theorem RootIs.below {w w' : World} {base : Nat} {v : Value} {g : Int} {l : List S63} (h : RootIs w base v g l) (hb : Below w.heap.size w w') : RootIs w' base v g l := by
  obtain ⟨A, c, rfl, ho⟩ := h
  exact ⟨A, c, rfl, ho.step (fun q hq _ => hb.block q hq)⟩
theorem RootIs.lower {w : World} {base base' : Nat} {v : Value} {g : Int} {l : List S63} (h : RootIs w base v g l) (hb : base' ≤ base) : RootIs w base' v g l := by
  obtain ⟨A, c, rfl, ho⟩ := h
  exact ⟨A, c, rfl, Kd.R_lower ho hb⟩
theorem RootIs.none (w : World) (base : Nat) : RootIs w base (.agg #[.int .u64 0, .slice none 0 0]) 0 [] := ⟨_, _, rfl, Kd.R_nil _ _ _ _ _⟩
theorem RootIs.snaps {w : World} {base : Nat} {v : Value} {g : Int} {l : List S63} (h : RootIs w base v g l) : ∃ A c, v = .agg #[.int .u64 g, .slice A l.length c] ∧ l.length ≤ c ∧ SnapsAt w A l := by
  obtain ⟨A, c, rfl, ho⟩ := h
  obtain ⟨_, h1, h2⟩ := Kd.R_reads' ho
  exact ⟨A, c, rfl, h1, h2⟩
theorem RootIs.set {w : World} {base : Nat} {v : Value} {g : Int} {l : List S63} (h : RootIs w base v g l) {b : Nat} {cs : Array Value} {t : TypeId} (hb : w.heap[b]? = some (.cells cs t (0, 0))) (ht : t ≠ 63) (i : Nat) (x : Value) : RootIs (w.setCell ⟨b, i, Option.none⟩ x) base v g l := by
  obtain ⟨A, c, rfl, ho⟩ := h
  refine ⟨A, c, rfl, ho.step (fun q hq hc => heap_set2 _ _ _ _ _ fun e => ?_)⟩
  obtain ⟨cells, hc⟩ := hc
  rw [e, hb] at hc
  injection hc with hc
  injection hc with _ e2 _
  exact ht e2
theorem decode_is (A : Option Addr) (n c : Nat) (bs : List Int) (w : World) (hbs : BytesAt w w.heap.size A n bs) (hnc : n ≤ c) (hn : n ≤ 140737488351232) :
    Calls Try.prog 32 #[.slice A n c] w fun e w' => Below w.heap.size w w' ∧ ∃ v, e = .returned (.tuple #[v, .int .i64 (decE bs)]) ∧ RootIs w' w.heap.size v (decG bs) (decL bs) := by
  refine (decode_any A n c bs w hbs hnc hn).mono ?_
  rintro e w' ⟨hb, ⟨hok, A', c', rfl, ho⟩ | ⟨hno, rfl⟩⟩
  · refine ⟨hb, _, by rw [decE_yes hok], A', c', by rw [decG_yes hok, decL_yes hok, snapsOf_length], by rw [decL_yes hok, snapsOf_length]; exact ho⟩
  · refine ⟨hb, _, by rw [decE_no hno], ?_⟩
    rw [decG_no hno, decL_no hno]
    exact RootIs.none _ _
theorem rdecode_is (A : Option Addr) (n c : Nat) (bs : List Int) (w : World) (hbs : BytesAt w w.heap.size A n bs) (hnc : n ≤ c) (hn : n ≤ 140737488351232) :
    Calls Try.prog 33 #[.slice A n c] w fun e w' => Below w.heap.size w w' ∧ ∃ v, e = .returned (.tuple #[v, .int .i64 (decE bs)]) ∧ RootIs w' w.heap.size v (decG bs) (decL bs) := by
  refine (rdecode_any A n c bs w hbs hnc hn).mono ?_
  rintro e w' ⟨hb, ⟨hok, A', c', rfl, ho⟩ | ⟨hno, rfl⟩⟩
  · have hok := rec_of_rdec hbs.2.1 hok
    refine ⟨hb, _, by rw [decE_yes hok], A', c', by rw [decG_yes hok, decL_yes hok, snapsOf_length], by rw [decL_yes hok, snapsOf_length]; exact ho⟩
  · have hno : ¬ recOk bs := fun h => hno (rdec_of_rec hbs.2.1 h)
    refine ⟨hb, _, by rw [decE_no hno], ?_⟩
    rw [decG_no hno, decL_no hno]
    exact RootIs.none _ _
/-! ### Roots alike -/
theorem same_loop (g g' : Int) (l l' : List S63) (hl : l.length = l'.length) (hm : l.length ≤ 140737488351232) : ∀ (m i : Nat), l.length - i = m → i ≤ l.length → (∀ j, j < i → l.getD j z63 = l'.getD j z63) → ∀ k, m < k →
    PRootReads.carrelref03_Same.l0 k (l.length : Int) (i : Int) g l g' l' = some (decide (∀ j, j < l.length → l.getD j z63 = l'.getD j z63))
  | 0, i, h1, hi, hj, k, hk => by
    obtain ⟨k, rfl⟩ : ∃ q, k = q + 1 := ⟨k - 1, by omega⟩
    obtain rfl : i = l.length := by omega
    simp only [PRootReads.carrelref03_Same.l0]
    rw [if_neg (by omega)]
    exact some_true hj
  | m + 1, i, h1, hi, hj, k, hk => by
    obtain ⟨k, rfl⟩ : ∃ q, k = q + 1 := ⟨k - 1, by omega⟩
    have hlt : i < l.length := by omega
    simp only [PRootReads.carrelref03_Same.l0]
    rw [if_pos (by omega), if_pos (by omega), if_pos (by omega), if_pos (by omega), rd_at, rd_at, wrap_nat (by omega)]
    by_cases c : l.getD i z63 = l'.getD i z63
    · rw [c, if_neg (by simp)]
      refine same_loop g g' l l' hl hm m (i + 1) (by omega) hlt (fun j hj' => ?_) k (by omega)
      rcases Nat.lt_or_ge j i with h | h
      · exact hj j h
      · obtain rfl : j = i := by omega
        exact c
    · rw [if_pos]
      · exact some_false (fun h => c (h i hlt))
      · rcases hx : l.getD i z63 with ⟨a, b⟩
        rcases hy : l'.getD i z63 with ⟨a', b'⟩
        rw [hx, hy] at c
        by_cases e : a = a'
        · have : ¬ b = b' := fun e2 => c (by rw [e, e2])
          simp [this]
        · simp [e]
theorem list_ext {l l' : List S63} (hl : l.length = l'.length) (h : ∀ j, j < l.length → l.getD j z63 = l'.getD j z63) : l = l' := by
  apply List.ext_getElem hl
  intro j h1 h2
  have := h j h1
  rwa [List.getD_eq_getElem?_getD, List.getD_eq_getElem?_getD, List.getElem?_eq_getElem h1, List.getElem?_eq_getElem h2] at this
theorem same_is (g g' : Int) (l l' : List S63) (hm : l.length ≤ 140737488351232) : PRootReads.carrelref03_Same.f (l.length + 2) g l g' l' = some (decide (g = g' ∧ l = l')) := by
  unfold PRootReads.carrelref03_Same.f
  by_cases c1 : g = g'
  · rw [if_pos c1]
    simp only [PRootReads.carrelref03_Same.j0]
    by_cases c2 : l.length = l'.length
    · have : ((l.length : Int) != (l'.length : Int)) = false := by rw [c2]; simp
      rw [this, if_neg (by decide)]
      have h2 := same_loop g g' l l' c2 hm l.length 0 (by omega) (by omega) (fun j hj => absurd hj (Nat.not_lt_zero j)) (l.length + 1) (by omega)
      rw [Int.natCast_zero] at h2
      rw [h2]
      congr 1
      apply Bool.eq_iff_iff.2
      rw [decide_eq_true_eq, decide_eq_true_eq]
      exact ⟨fun h => ⟨c1, list_ext c2 h⟩, fun h j hj => by rw [h.2]⟩
    · have : ((l.length : Int) != (l'.length : Int)) = true := by simpa using fun e => c2 (Int.ofNat.inj e)
      rw [this, if_pos rfl]
      exact some_false (fun h => c2 (by rw [h.2]))
  · rw [if_neg c1]
    simp only [PRootReads.carrelref03_Same.j0]
    rw [if_pos trivial]
    exact some_false (fun h => c1 h.1)
theorem same03_any (g g' : Int) (A A' : Option Addr) (c c' : Nat) (l l' : List S63) (w : World) (h : SnapsAt w A l) (hc : l.length ≤ c) (h' : SnapsAt w A' l') (hc' : l'.length ≤ c') (hm : l.length ≤ 140737488351232) :
    Calls Try.prog 34 #[.agg #[.int .u64 g, .slice A l.length c], .agg #[.int .u64 g', .slice A' l'.length c']] w fun e w' => e = .returned (.bool (decide (g = g' ∧ l = l'))) ∧ Below w.heap.size w w' :=
  PRootReads.carrelref03_Same.calls _ g A c l g' A' c' l' _ w h hc h' hc' (same_is g g' l l' hm)
end Go.Proofs.Ytghpnhiliihlaaa.Root
