/-
  NodeEntries: the law's walk: the Go text returns true for every node and writes nothing that was there.
-/
import Derived.Test.YtijlhdcebfglnaaEnt
namespace Go.Proofs.Ytijlhdcebfglnaa
open Go.RowKit Go.Shelf
attribute [local go_sem] Oper.semAt_some
/-- What the law's first three blocks hold, and that nothing older has turned. -/
def K3 (w : World) (xs : List Int) (W : World) : Prop :=
  W.heap[w.heap.size]? = some (.cells (ints .i64 xs) 34 (0, 0)) ∧ W.heap[w.heap.size + 1]? = some (.cells #[.bool false] 4 (0, 0)) ∧ W.heap[w.heap.size + 1 + 1]? = some (.cells (ints .i64 xs) 34 (0, 0)) ∧ Below w.heap.size w W
theorem blk_own {A B : World} {row : Option Nat} {g : Nat} {cs : Array Value} {t : TypeId} {fr : Nat × Nat} (h : A.heap[g]? = some (.cells cs t fr)) (hg : A.grownBy B row)
    (hr : ∀ r, row = some r → ∃ o : Obj, A.heap[r]? = some o ∧ o.isCells = false) : B.heap[g]? = some (.cells cs t fr) := by
  refine blk_row h hg (fun e => ?_)
  obtain ⟨o, ho, hc⟩ := hr g e.symm
  rw [h] at ho
  injection ho with ho
  subst ho
  cases hc
theorem K3_own {β : Type} (w : World) (xs : List Int) (B : Nat) (hB : w.heap.size ≤ B) : OwnFrom B (fun (_ : β) W => K3 w xs W) := fun _ W W' row hs hg hr =>
  ⟨blk_own hs.1 hg (fun r e => (hr r e).2), blk_own hs.2.1 hg (fun r e => (hr r e).2), blk_own hs.2.2.1 hg (fun r e => (hr r e).2), hs.2.2.2.grown hg hs.2.2.2.size (fun k e => Nat.le_trans hB (hr k e).1)⟩
/-- What has come is in order, in range and not nought; the last index. -/
def goodFrom (q : Int) : List (Nat × Int) → Prop
  | [] => True
  | x :: r => q < x.1 ∧ x.1 < 32 ∧ x.2 ≠ 0 ∧ goodFrom x.1 r
def lastFrom (q : Int) : List (Nat × Int) → Int
  | [] => q
  | x :: r => lastFrom x.1 r
theorem goodFrom_snoc (x : Nat × Int) : ∀ (q : Int) (l : List (Nat × Int)), goodFrom q (l ++ [x]) ↔ goodFrom q l ∧ lastFrom q l < x.1 ∧ x.1 < 32 ∧ x.2 ≠ 0
  | q, [] => by simp [goodFrom, lastFrom]
  | q, y :: r => by
    simp only [List.cons_append, goodFrom, lastFrom, goodFrom_snoc x y.1 r]
    constructor
    · rintro ⟨a, b, c, d, e⟩; exact ⟨⟨a, b, c, d⟩, e⟩
    · rintro ⟨⟨a, b, c, d⟩, e⟩; exact ⟨a, b, c, d, e⟩
theorem lastFrom_snoc (x : Nat × Int) : ∀ (q : Int) (l : List (Nat × Int)), lastFrom q (l ++ [x]) = x.1
  | q, [] => rfl
  | q, y :: r => by simp only [List.cons_append, lastFrom, lastFrom_snoc x y.1 r]
def seenOf (l : List (Nat × Int)) : List Int := l.foldl (fun s x => s.set x.1 x.2) zeros
theorem seenOf_snoc (l : List (Nat × Int)) (x : Nat × Int) : seenOf (l ++ [x]) = (seenOf l).set x.1 x.2 := by simp [seenOf]
theorem seenOf_length (l : List (Nat × Int)) : (seenOf l).length = 32 := by
  unfold seenOf
  have : ∀ s : List Int, (l.foldl (fun s x => s.set x.1 x.2) s).length = s.length := by
    induction l with
    | nil => intro s; rfl
    | cons x r ih => intro s; rw [List.foldl_cons, ih]; simp
  rw [this]; rfl
theorem entriesTo_good (xs : List Int) : ∀ k, k ≤ 32 → goodFrom (-1) (entriesTo xs k) ∧ lastFrom (-1) (entriesTo xs k) < k
  | 0, _ => by simp [entriesTo, goodFrom, lastFrom]
  | k + 1, h => by
    obtain ⟨a, b⟩ := entriesTo_good xs k (by omega)
    by_cases hz : xs[k]?.getD 0 = 0
    · rw [entriesTo_no hz]; exact ⟨a, by omega⟩
    · rw [entriesTo_yes hz, goodFrom_snoc, lastFrom_snoc]
      exact ⟨⟨a, b, by omega, hz⟩, by simp; omega⟩
theorem seenOf_entries (xs : List Int) (hs : xs.length = 32) : ∀ k, k ≤ 32 → seenOf (entriesTo xs k) = xs.take k ++ zeros.drop k
  | 0, _ => by simp [entriesTo, seenOf]
  | k + 1, h => by
    have ih := seenOf_entries xs hs k (by omega)
    have hk : k < xs.length := by omega
    have hz : zeros.drop k = 0 :: zeros.drop (k + 1) := by
      rw [List.drop_eq_getElem_cons (by rw [zeros_length]; omega)]
      have : zeros[k]'(by rw [zeros_length]; omega) = 0 := by unfold zeros; exact List.getElem_replicate _
      rw [this]
    have ht : (xs.take k).length = k := by simp; omega
    have hx : xs.take (k + 1) = xs.take k ++ [xs[k]] := by rw [List.take_succ_eq_append_getElem hk]
    by_cases hq : xs[k]?.getD 0 = 0
    · rw [entriesTo_no hq, ih, hx, hz]
      have : xs[k] = 0 := by simpa [hk] using hq
      rw [this]; simp
    · rw [entriesTo_yes hq, seenOf_snoc, ih, hx, hz, List.set_append_right _ _ (by omega)]
      rw [ht, Nat.sub_self, List.set_cons_zero, List.append_assoc]; simp [hk]
theorem seenOf_all (xs : List Int) (hs : xs.length = 32) : seenOf (entriesTo xs 32) = xs := by
  rw [seenOf_entries xs hs 32 (by omega), List.take_of_length_le (by omega), List.drop_of_length_le (by rw [zeros_length]; omega), List.append_nil]
theorem cell_one {W : World} {g : Nat} {v : Value} {t : TypeId} (h : W.heap[g]? = some (.cells #[v] t (0, 0))) : W.cell? ⟨g, 0, none⟩ = some v := by
  rw [cell_of_row W g 0 _ t (0, 0) h]; rfl
/-- What holds between two rounds of the second loop. -/
def I2 (w : World) (xs : List Int) (b : Nat) (D : Nat) (pre : List (Nat × Int)) (W : World) : Prop :=
  goodFrom (-1) pre ∧ K3 w xs W ∧ W.heap[b]? = some (.cells (ints .i64 (seenOf pre)) 34 (0, 0)) ∧ W.heap[b + 1]? = some (.cells #[.int .i64 (lastFrom (-1) pre)] 3 (0, 0)) ∧ W.heap[D]? = some (.deferred (some []))
theorem I2_own (w : World) (xs : List Int) (b D B : Nat) (hB : w.heap.size ≤ B) (hD : D < B) : OwnFrom B (I2 w xs b D) := fun s W W' row hs hg hr =>
  ⟨hs.1, K3_own (β := Unit) w xs B hB () W W' row hs.2.1 hg hr, blk_own hs.2.2.1 hg (fun r e => (hr r e).2), blk_own hs.2.2.2.1 hg (fun r e => (hr r e).2), blk_row hs.2.2.2.2 hg (fun e => by have := (hr D e.symm).1; omega)⟩

set_option maxRecDepth 100000 in
set_option maxHeartbeats 2000000 in
theorem ent_walk (xs : List Int) (hs : xs.length = 32) (w : World) :
    CallsIn Fence.wide 8 Try.prog 5 #[.agg (ints .i64 xs)] w fun e W' => e = .returned (.bool true) ∧ Below w.heap.size w W' := by
  have hnil : ∀ (c : Array Value) (W : World), (binOp .eql 39 (.func (.func 20) #[] c) .nilFunc).run Try.prog W = .ok (.bool false) W := fun _ _ => by kernel_rfl
  refine callsIn_of_wp_marks Try.func5 rfl trivial ?_ rfl
  simp only [Try.ntmps5, List.size_toArray, List.length_cons, List.length_nil, Nat.reduceAdd, Nat.reduceSub, Array.replicate_succ, Array.replicate_zero, List.push_toArray, List.append_toArray, List.nil_append, List.cons_append]
  gi_wp2_with (first
    | (refine ⟨trivial, ?_⟩; gi_at_call 8; refine (callsIn_wide.2 (awake_any _)).mono ?_; rintro e w' ⟨rfl, rfl⟩)
    | (refine ⟨trivial, ?_⟩; gi_at_call 14; refine (callsIn_wide.2 (entries_any xs hs _)).mono ?_; rintro e w' ⟨rfl, rfl⟩)
    | (refine wpLI_load rfl 34 (.tmp 1) rfl _ rfl 34 (ints .i64 xs) (0, 0) _ (heap_alloc2_old _ _ _) Try.underlying34 rfl (size34_of hs) ?_))
  have hk0 : K3 w xs (((w.alloc (.cells (ints .i64 xs) 34)).alloc (.cells #[.bool false] 4)).alloc (.cells (ints .i64 xs) 34)) :=
    ⟨blk_alloc (heap_alloc2_old _ _ _) _, blk_alloc (heap_alloc2_new _ _ _) _, blk_new _ _ (by simp), (((Below.refl _ _).alloc (Nat.le_refl _) _).alloc (by simp) _).alloc (by simp; omega) _⟩
  generalize ((w.alloc (.cells (ints .i64 xs) 34)).alloc (.cells #[.bool false] 4)).alloc (.cells (ints .i64 xs) 34) = W0 at hk0 ⊢
  have hsz : w.heap.size + 1 + 1 < W0.heap.size := blk_lt hk0.2.2.1
  refine wpIn_rangeFunc_ownG rfl (by omega) (gf := 20) (lb := #[.pointer (some ⟨w.heap.size + 1 + 1, 0, none⟩)]) rfl trivial (enters_of Try.func20 (by kernel_rfl) rfl)
    (entries_stops Fence.wide 7 trivial rfl (by omega) (w.heap.size + 1 + 1) w.heap.size xs hs W0 hk0.2.2.1) belowK_t (belowK_b (by omega)) (Below.refl _ _) (fun _ => rfl)
    (fun _ W => K3 w xs W) (fun c _ W => c = .exit 0 ∧ K3 w xs W) (K3_own w xs _ (by omega)) (fun c => OwnFrom.and (ownFrom_pure _ _) (K3_own w xs _ (by omega))) hk0 
    (fun x => { tmps := #[.agg (ints .i64 xs), .pointer (some ⟨w.heap.size, 0, none⟩), .pointer (some ⟨w.heap.size + 1, 0, none⟩), .func (.func 20) #[] #[.pointer (some ⟨w.heap.size + 1 + 1, 0, none⟩)], undef, undef, undef, undef, .bool true, .bool false, .agg (ints .i64 xs), .func (.func 20) #[] #[.pointer (some ⟨w.heap.size + 1 + 1, 0, none⟩)], .func (.func 20) #[] #[.pointer (some ⟨w.heap.size + 1 + 1, 0, none⟩)], .bool false, .func (.func 20) #[] #[.pointer (some ⟨w.heap.size + 1 + 1, 0, none⟩)], .int .i64 x.1, .int .i64 x.2, undef, undef, undef, undef, undef, undef, undef, undef, undef, undef, undef, undef, undef, undef, undef, undef, undef, undef, undef, undef, undef], defers := [] }) ?assign ?body ?done ?stop
  case assign =>
    intro l x W K hK
    gi_wp2
    exact hK
  case body =>
    rintro l pre x W hI _
    gi_wp2
    exact ⟨(KeepsOthers.refl _).from _, rfl, hI⟩
  case' done =>
    rintro D _ W hD _ hI hK
    gi_wp2
  case' stop =>
    rintro D c _ W hD _ ⟨rfl, hI⟩ hK
    gi_wp2
  all_goals
    have hsz1 : w.heap.size + 1 + 1 < W.heap.size := blk_lt hI.2.2.1
    have hDlt : D < W.heap.size := blk_lt hK
    have hi2 : I2 w xs W.heap.size D [] ((W.alloc (.cells #[.int .i64 0, .int .i64 0, .int .i64 0, .int .i64 0, .int .i64 0, .int .i64 0, .int .i64 0, .int .i64 0, .int .i64 0, .int .i64 0, .int .i64 0, .int .i64 0, .int .i64 0, .int .i64 0, .int .i64 0, .int .i64 0, .int .i64 0, .int .i64 0, .int .i64 0, .int .i64 0, .int .i64 0, .int .i64 0, .int .i64 0, .int .i64 0, .int .i64 0, .int .i64 0, .int .i64 0, .int .i64 0, .int .i64 0, .int .i64 0, .int .i64 0, .int .i64 0] 34)).alloc (.cells #[.int .i64 (-1)] 3)) :=
      ⟨trivial, ⟨blk_alloc (blk_alloc hI.1 _) _, blk_alloc (blk_alloc hI.2.1 _) _, blk_alloc (blk_alloc hI.2.2.1 _) _, (hI.2.2.2.alloc (by omega) _).alloc (by simp; omega) _⟩,
        blk_alloc (blk_new _ _ rfl) _, blk_new _ _ (by simp), blk_alloc (blk_alloc hK _) _⟩
    have hsz2 : W.heap.size + 2 = ((W.alloc (.cells #[.int .i64 0, .int .i64 0, .int .i64 0, .int .i64 0, .int .i64 0, .int .i64 0, .int .i64 0, .int .i64 0, .int .i64 0, .int .i64 0, .int .i64 0, .int .i64 0, .int .i64 0, .int .i64 0, .int .i64 0, .int .i64 0, .int .i64 0, .int .i64 0, .int .i64 0, .int .i64 0, .int .i64 0, .int .i64 0, .int .i64 0, .int .i64 0, .int .i64 0, .int .i64 0, .int .i64 0, .int .i64 0, .int .i64 0, .int .i64 0, .int .i64 0, .int .i64 0] 34)).alloc (.cells #[.int .i64 (-1)] 3)).heap.size := by simp
    generalize (W.alloc (.cells #[.int .i64 0, .int .i64 0, .int .i64 0, .int .i64 0, .int .i64 0, .int .i64 0, .int .i64 0, .int .i64 0, .int .i64 0, .int .i64 0, .int .i64 0, .int .i64 0, .int .i64 0, .int .i64 0, .int .i64 0, .int .i64 0, .int .i64 0, .int .i64 0, .int .i64 0, .int .i64 0, .int .i64 0, .int .i64 0, .int .i64 0, .int .i64 0, .int .i64 0, .int .i64 0, .int .i64 0, .int .i64 0, .int .i64 0, .int .i64 0, .int .i64 0, .int .i64 0] 34)).alloc (.cells #[.int .i64 (-1)] 3) = W2 at hi2 hsz2 ⊢
    refine wpIn_rangeFunc_ownG rfl (by omega) (gf := 20) (lb := #[.pointer (some ⟨w.heap.size + 1 + 1, 0, none⟩)]) rfl trivial (enters_of Try.func20 (by kernel_rfl) rfl)
      (entries_stops Fence.wide 7 trivial rfl (by omega) (w.heap.size + 1 + 1) w.heap.size xs hs W2 hi2.2.1.2.2.1) belowK_t (belowK_b (by omega)) (Below.refl _ _) (fun _ => rfl)
      (I2 w xs W.heap.size D) (fun c pre _ => c = .ret ∧ ¬ goodFrom (-1) pre) (I2_own w xs _ D _ (by omega) (by omega)) (fun c => ownFrom_pure _ _) hi2
      (fun x => { tmps := #[.agg (ints .i64 xs), .pointer (some ⟨w.heap.size, 0, none⟩), .pointer (some ⟨w.heap.size + 1, 0, none⟩), .func (.func 20) #[] #[.pointer (some ⟨w.heap.size + 1 + 1, 0, none⟩)], .pointer (some ⟨W.heap.size, 0, none⟩), .pointer (some ⟨W.heap.size + 1, 0, none⟩), .int .i64 x.1, .int .i64 x.2, .bool true, .bool false, .agg (ints .i64 xs), .func (.func 20) #[] #[.pointer (some ⟨w.heap.size + 1 + 1, 0, none⟩)], .func (.func 20) #[] #[.pointer (some ⟨w.heap.size + 1 + 1, 0, none⟩)], .bool false, .func (.func 20) #[] #[.pointer (some ⟨w.heap.size + 1 + 1, 0, none⟩)], undef, undef, .func (.func 20) #[] #[.pointer (some ⟨w.heap.size + 1 + 1, 0, none⟩)], .int .i64 x.1, .int .i64 x.2, undef, undef, undef, undef, undef, undef, undef, undef, undef, undef, undef, undef, undef, undef, undef, undef, undef, undef], defers := [] }) ?_ ?_ ?_ ?_
    · intro l x W K hK
      gi_wp2
      exact hK
    · rintro l pre ⟨i, v⟩ W3 ⟨hg, hk, h4, h5, hd⟩ _
      have hb : ¬ (goodFrom (-1) pre ∧ lastFrom (-1) pre < i ∧ i < 32 ∧ v ≠ 0) → ¬ goodFrom (-1) (pre ++ [(i, v)]) := fun h h' => h ((goodFrom_snoc _ _ _).1 h')
      have hbt : (goodFrom (-1) pre ∧ lastFrom (-1) pre < i ∧ i < 32 ∧ v ≠ 0) → goodFrom (-1) (pre ++ [(i, v)]) := fun h => ((goodFrom_snoc _ _ _).2 h)
      have hlast := lastFrom_snoc (i, v) (-1) pre
      have hseen := seenOf_snoc pre (i, v)
      have hlen := seenOf_length pre
      generalize seenOf pre = sn at h4 hseen hlen
      generalize lastFrom (-1) pre = q at h5 hb hbt
      have hc5 := cell_one h5
      have hf5 := frozen_blk h5 0
      have hc2 := cell_one hk.2.1
      have hf2 := frozen_blk hk.2.1 0
      have Hlast := Lib.hid hlast
      have Hseen := Lib.hid hseen
      have Hlen := Lib.hid hlen
      have H4 := Lib.hid h4
      have H5 := Lib.hid h5
      have Hd := Lib.hid hd
      have Hk := Lib.hid hk
      have Hb := Lib.hid hb
      have Hbt := Lib.hid hbt
      clear hlast hseen h4 h5 hd hk hb hbt hlen
      dsimp only
      by_cases c1 : (i : Int) ≤ q
      · gi_wp2
        exact ⟨(KeepsOthers.setCell _ _ _).from _, rfl, Hb.out (by omega)⟩
      by_cases c2 : 32 ≤ (i : Int)
      · gi_wp2
        exact ⟨(KeepsOthers.setCell _ _ _).from _, rfl, Hb.out (by omega)⟩
      by_cases c3 : v = 0
      · have c4 : (v == 0) = true := by simp [c3]
        have C3 := Lib.hid c3
        clear c3
        gi_wp2
        exact ⟨(KeepsOthers.setCell _ _ _).from _, rfl, Hb.out (by have := C3.out; omega)⟩
      · have c4 : (v == 0) = false := by simp [c3]
        have hc4 := cell_blk H4.out i (by rw [Hlen.out]; omega)
        have hf4 := frozen_blk H4.out i
        gi_wp2
        have hne : ¬ W.heap.size = W.heap.size + 1 := by omega
        refine ⟨((KeepsOthers.setCell _ _ _).trans (KeepsOthers.setCell _ _ _)).from _, ((Below.refl _ _).setCell (by simp; omega) _).setCell (by simp; omega) _, Hbt.out ⟨hg, c1, by omega, c3⟩,
          ⟨blk_far (blk_far Hk.out.1 (by simp; omega) _) (by simp; omega) _, blk_far (blk_far Hk.out.2.1 (by simp; omega) _) (by simp; omega) _, blk_far (blk_far Hk.out.2.2.1 (by simp; omega) _) (by simp; omega) _,
            (Hk.out.2.2.2.setCell (by simp; omega) _).setCell (by simp; omega) _⟩, ?_, ?_, blk_far (blk_far Hd.out (by simp; omega) _) (by simp; omega) _⟩
        · rw [Hseen.out]
          exact blk_set (blk_far H4.out (by simp) _) i v
        · rw [Hlast.out]
          exact blk_far (heap_setCell_same W3 (W.heap.size + 1) 0 _ 3 _ H5.out) (by simp) _
    · rintro D2 ys W3 hD2 rfl ⟨hg, hk, h4, h5, hd⟩ hK2
      rw [seenOf_all xs hs] at h4
      have heq := eq34_same xs hs
      have hc2 := cell_one hk.2.1
      have hf2 := frozen_blk hk.2.1 0
      have H4 := Lib.hid h4
      have H5 := Lib.hid h5
      have Hd := Lib.hid hd
      have Hk := Lib.hid hk
      have HK2 := Lib.hid hK2
      clear h4 h5 hd hk hg hK2
      gi_wp2_with (first
        | (refine wpLI_load rfl 34 (.tmp 4) rfl _ rfl 34 (ints .i64 xs) (0, 0) _ H4.out Try.underlying34 rfl (size34_of hs) ?_)
        | (refine wpLI_load rfl 34 (.tmp 1) rfl _ rfl 34 (ints .i64 xs) (0, 0) _ Hk.out.1 Try.underlying34 rfl (size34_of hs) ?_))
      have hR : (W3.setCell ⟨w.heap.size + 1, 0, none⟩ (.bool true)).heap[w.heap.size + 1]? = some (.cells #[.bool true] 4 (0, 0)) := heap_setCell_same W3 (w.heap.size + 1) 0 _ 4 _ Hk.out.2.1
      have hbw : Below w.heap.size w (W3.setCell ⟨w.heap.size + 1, 0, none⟩ (.bool true)) := Hk.out.2.2.2.setCell (by simp) _
      have hd1 := blk_far (p := ⟨w.heap.size + 1, 0, none⟩) Hd.out (by simp; omega) (.bool true)
      have hd2 := blk_far (p := ⟨w.heap.size + 1, 0, none⟩) HK2.out (by simp; omega) (.bool true)
      generalize W3.setCell ⟨w.heap.size + 1, 0, none⟩ (.bool true) = W4 at hR hbw hd1 hd2 ⊢
      have hne : D ≠ D2 := by omega
      refine ⟨by simp, .inl ⟨D2, _, rfl, run_takeDeferred hd2, ?_⟩⟩
      refine ⟨by simp, .inl ⟨D, _, rfl, run_takeDeferred ((World.putObj_heap_other hne).trans hd1), ?_⟩⟩
      have hR2 : ((W4.putObj D2 (.deferred none)).putObj D (.deferred none)).heap[w.heap.size + 1]? = some (.cells #[.bool true] 4 (0, 0)) := (World.putObj_heap_other (by omega)).trans ((World.putObj_heap_other (by omega)).trans hR)
      have hc := cell_one hR2
      refine ⟨.bool true, by simp [results, Try.results5, go_sem, hc], rfl, ?_⟩
      exact (hbw.grown (grownBy_putObj' _ _ _) hbw.size (fun k e => by cases e; omega)).grown (grownBy_putObj' _ _ _) (by simpa using hbw.size) (fun k e => by cases e; omega)
    · rintro D2 c pre W3 hD2 ⟨k, hk, rfl⟩ ⟨rfl, hbad⟩ _
      exact absurd (entriesTo_good xs k hk).1 hbad
theorem nodeEntries_walk (W : World) {H : Type} {enc : TypeId × Value → H} {base : Nat} {d : DataW H} {p : List MemPlace} (v : Value)
    (hok : Value.okWide Try.prog W .any base 34 v) (ht : DataW.Trod enc Try.prog W 0 (fun _ => true) true 34 v d p) :
    Calls Try.prog 5 #[v] W fun e W' => e = .returned (.bool true) ∧ Below W.heap.size W W' := by
  obtain ⟨xs, rfl, hs, _⟩ := open_arr Try.underlying34 Try.underlying3 (by kernel_rfl) (by kernel_rfl) hok ht
  exact callsIn_wide.1 (ent_walk xs hs W)
end Go.Proofs.Ytijlhdcebfglnaa
