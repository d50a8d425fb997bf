/-
  SourceEach: the law's walk.
-/
import Derived.Test.YtkdmjkknkefemaaEachIt
namespace Go.Proofs.Ytkdmjkknkefemaa.Each
open Go.RowKit Go.Shelf Go.Proofs.Ytkdmjkknkefemaa
attribute [local go_sem] Oper.semAt_some
set_option linter.unusedVariables false
set_option linter.unusedSimpArgs false

theorem blk_new (w : World) (o : Obj) {g : Nat} (hg : g = w.heap.size) : (w.alloc o).heap[g]? = some o := by subst hg; exact heap_alloc_new w o
section
variable {w w' : World} {g : Nat} {o : Obj}
theorem blk_alloc (h : w.heap[g]? = some o) (o' : Obj) : (w.alloc o').heap[g]? = some o := (Below.heap_alloc w o' g (blk_lt h)).trans h
theorem blk_far (h : w.heap[g]? = some o) {p : Addr} (hne : g ≠ p.block) (v : Value) : (w.setCell p v).heap[g]? = some o := (heap_setCell_other w p g v hne).trans h
theorem blk_row (h : w.heap[g]? = some o) {row : Option Nat} (hb : w.grownBy w' row) (hne : some g ≠ row) : w'.heap[g]? = some o := (hb.block g (blk_lt h) hne).trans h
theorem blk_up (h : w.heap[g]? = some o) (hb : Below w.heap.size w w') : w'.heap[g]? = some o := (hb.block g (blk_lt h)).trans h
theorem blk_below {B : Nat} (h : w.heap[g]? = some o) (hb : Below B w w') (hlt : g < B) : w'.heap[g]? = some o := (hb.block g hlt).trans h
end
theorem blk_own {A B : World} {row : Option Nat} {g : Nat} {cs : Array Value} {t : TypeId} {fr : Nat × Nat} (h : A.heap[g]? = some (.cells cs t fr)) (hg : A.grownBy B row)
    (hr : ∀ r, row = some r → ∃ o : Obj, A.heap[r]? = some o ∧ o.isCells = false) : B.heap[g]? = some (.cells cs t fr) := by
  refine blk_row h hg (fun e => ?_)
  obtain ⟨o, ho, hc⟩ := hr g e.symm
  rw [h] at ho
  injection ho with ho
  subst ho
  cases hc
/-- What the law's blocks hold, and that nothing older has turned. -/
def K3 (w : World) (s : ByteArray) (Bs : Nat) (W : World) : Prop :=
  W.heap[w.heap.size]? = some (.cells #[.string s] 9 (0, 0)) ∧ W.heap[w.heap.size + 1]? = some (.cells #[.bool false] 4 (0, 0)) ∧ W.heap[Bs]? = some (.cells #[.string s] 9 (0, 0)) ∧ Below w.heap.size w W
theorem K3_own {β : Type} (w : World) (s : ByteArray) (Bs : Nat) (B : Nat) (hB : w.heap.size ≤ B) : OwnFrom B (fun (_ : β) W => K3 w s Bs W) := fun _ W W' row hs hg hr =>
  ⟨blk_own hs.1 hg (fun r e => (hr r e).2), blk_own hs.2.1 hg (fun r e => (hr r e).2), blk_own hs.2.2.1 hg (fun r e => (hr r e).2), hs.2.2.2.grown hg hs.2.2.2.size (fun k e => Nat.le_trans hB (hr k e).1)⟩
theorem K3.up {w W W' : World} {s : ByteArray} {Bs : Nat} (h : K3 w s Bs W) (hb : Below W.heap.size W W') : K3 w s Bs W' :=
  ⟨blk_up h.1 hb, blk_up h.2.1 hb, blk_up h.2.2.1 hb, h.2.2.2.trans (hb.mono h.2.2.2.size)⟩

theorem keeps_below {A B : World} (h : Below A.heap.size A B) : KeepsOthers A B := KeepsOthers.of_grownBy (below_grown h) (fun j o e => by cases e)
theorem toList_ne {a b : ByteArray} (h : ¬ a = b) : (a.toList == b.toList) = false := by
  rw [beq_eq_false_iff_ne]
  intro e
  rw [Go.ByteArray.toList_eq, Go.ByteArray.toList_eq] at e
  refine h ?_
  rcases a with ⟨x⟩
  rcases b with ⟨y⟩
  congr 1
  exact Array.toList_inj.1 e
theorem toList_ne2 {a b : ByteArray} (h : ¬ a = b) : (a.toList != b.toList) = true := by
  rw [bne, toList_ne h]; rfl
def good (s : ByteArray) (pre : List (Nat × ByteArray)) : Prop := pre = wordsTo s pre.length ∧ ∀ i, i < pre.length → there s i
theorem good_words {s : ByteArray} {k : Nat} (h : ∀ i, i < k → there s i) : good s (wordsTo s k) := by
  unfold good
  rw [wordsTo_len]
  exact ⟨rfl, h⟩
theorem good_snoc {s : ByteArray} {pre : List (Nat × ByteArray)} {x : Nat × ByteArray} (h : good s pre) : good s (pre ++ [x]) ↔ x = wordN s pre.length ∧ there s pre.length := by
  unfold good
  rw [List.length_append, List.length_singleton, wordsTo_succ, ← h.1]
  constructor
  · rintro ⟨h1, h2⟩
    have := List.append_cancel_left h1
    exact ⟨by simpa using this, h2 _ (Nat.lt_succ_self _)⟩
  · rintro ⟨rfl, h2⟩
    refine ⟨rfl, fun i hi => ?_⟩
    rcases Nat.lt_or_ge i pre.length with h3 | h3
    · exact h.2 i h3
    · obtain rfl : i = pre.length := by omega
      exact h2
/-- What holds between two rounds of the second loop. -/
def I2 (w : World) (s : ByteArray) (Bs b D : Nat) (pre : List (Nat × ByteArray)) (W : World) : Prop :=
  good s pre ∧ K3 w s Bs W ∧ W.heap[b]? = some (.cells #[.int .i64 (placeN s pre.length)] 3 (0, 0)) ∧ W.heap[D]? = some (.deferred (some []))
theorem I2_own (w : World) (s : ByteArray) (Bs b D B : Nat) (hB : w.heap.size ≤ B) (hD : D < B) : OwnFrom B (I2 w s Bs b D) := fun x W W' row hs hg hr =>
  ⟨hs.1, K3_own (β := Unit) w s Bs B hB () W W' row hs.2.1 hg hr, blk_own hs.2.2.1 hg (fun r e => (hr r e).2), blk_row hs.2.2.2 hg (fun e => by have := (hr D e.symm).1; omega)⟩
set_option maxRecDepth 100000 in
set_option maxHeartbeats 2000000 in
theorem each_walk (s : ByteArray) (hs : s.size ≤ 2000) (w : World) :
    CallsIn Fence.wide 8 Try.prog 6 #[.string s] w fun e W' => e = .returned (.bool true) ∧ Below w.heap.size w W' := by
  have hnil : ∀ (c : Array Value) (W : World), (binOp .eql 32 (.func (.func 19) #[] c) .nilFunc).run Try.prog W = .ok (.bool false) W := fun _ _ => by kernel_rfl
  have hsi : (s.size : Int) ≤ 2000 := by omega
  refine callsIn_of_wp_marks Try.func6 rfl trivial ?_ rfl
  simp only [Try.ntmps6, List.size_toArray, List.length_cons, List.length_nil, Nat.reduceAdd, Nat.reduceSub, Array.replicate_succ, Array.replicate_zero, List.push_toArray, List.append_toArray, List.nil_append, List.cons_append]
  gi_wp2_with fail
  refine ⟨trivial, (callsIn_wide.2 (awake_any _)).mono ?_⟩
  rintro e w1 ⟨rfl, hb1⟩
  have hA : Below w.heap.size w ((w.alloc (.cells #[.string s] 9)).alloc (.cells #[.bool false] 4)) := ((Below.refl _ _).alloc (Nat.le_refl _) _).alloc (by simp) _
  have h1 : w1.heap[w.heap.size]? = some (.cells #[.string s] 9 (0, 0)) := blk_up (blk_alloc (heap_alloc_new w _) _) hb1
  have h2 : w1.heap[w.heap.size + 1]? = some (.cells #[.bool false] 4 (0, 0)) := blk_up (blk_new _ _ (by simp)) hb1
  have hbA : Below w.heap.size w w1 := hA.trans (hb1.mono hA.size)
  have hc1 := cell_one h1
  clear hA hb1
  gi_wp2_with fail
  refine ⟨trivial, (callsIn_wide.2 (words_any s _)).mono ?_⟩
  rintro e w2 ⟨rfl, rfl⟩
  have hk0 : K3 w s w1.heap.size (w1.alloc (.cells #[.string s] 9)) := ⟨blk_alloc h1 _, blk_alloc h2 _, heap_alloc_new _ _, hbA.alloc hbA.size _⟩
  have hlt1 : w.heap.size + 1 < w1.heap.size := blk_lt h2
  generalize hW0 : w1.alloc (.cells #[.string s] 9) = W0 at hk0 ⊢
  clear hW0 h1 h2 hc1 hbA
  generalize w1.heap.size = Bs at *
  gi_wp2_with fail
  -- loop 1
  have hsz : Bs < W0.heap.size := blk_lt hk0.2.2.1
  refine wpIn_rangeFunc_ownG rfl (by omega) (gf := 19) (lb := #[.pointer (some ⟨Bs, 0, none⟩)]) rfl trivial (enters_of Try.func19 (by kernel_rfl) rfl)
    (words_stops Bs (Bs + 1) s (by omega) (by omega) W0 hk0.2.2.1) belowK_t (belowK_b (by omega)) (Below.refl _ _) (fun _ => rfl)
    (fun _ W => K3 w s Bs W) (fun c _ W => c = .exit 0 ∧ K3 w s Bs W) (K3_own w s Bs _ (by omega)) (fun c => OwnFrom.and (ownFrom_pure _ _) (K3_own w s Bs _ (by omega))) hk0
    (fun x => { tmps := #[(.string s), (.pointer (some ⟨w.heap.size, 0, none⟩)), (.pointer (some ⟨w.heap.size + 1, 0, none⟩)), (.func (.func 19) #[] #[.pointer (some ⟨Bs, 0, none⟩)]), undef, undef, undef, undef, undef, undef, (.bool true), (.bool false), (.string s), (.int .i64 (s.size : Int)), (.bool (decide (2000 < (s.size : Int)))), (.string s), (.func (.func 19) #[] #[.pointer (some ⟨Bs, 0, none⟩)]), (.func (.func 19) #[] #[.pointer (some ⟨Bs, 0, none⟩)]), (.bool false), (.func (.func 19) #[] #[.pointer (some ⟨Bs, 0, none⟩)]), (.int .i64 x.1), (.string x.2), undef, undef, undef, undef, undef, undef, undef, undef, undef, undef, undef, undef, undef, undef, undef, undef, undef, undef, undef, undef, undef, undef, undef, undef, undef, undef, undef, undef, undef, undef, undef, undef, undef, undef, undef, undef], defers := [] }) ?assign ?body ?done ?stop
  case assign =>
    intro l x W K hK
    gi_wp2
    exact hK
  case body =>
    rintro l pre x W hI _
    gi_wp2
    exact ⟨(KeepsOthers.refl _).from _, rfl, hI⟩
  case' done =>
    rintro D _ W hD _ hI hK
    gi_wp2
  case' stop =>
    rintro D c _ W hD _ ⟨rfl, hI⟩ hK
    gi_wp2
  all_goals
    have hsz1 : Bs < W.heap.size := blk_lt hI.2.2.1
    have hDlt : D < W.heap.size := blk_lt hK
    have hi2 : I2 w s Bs W.heap.size D [] (W.alloc (.cells #[.int .i64 0] 3)) :=
      ⟨⟨rfl, fun i hi => absurd hi (Nat.not_lt_zero i)⟩, ⟨blk_alloc hI.1 _, blk_alloc hI.2.1 _, blk_alloc hI.2.2.1 _, hI.2.2.2.alloc (by omega) _⟩, heap_alloc_new _ _, blk_alloc hK _⟩
    have hsz2 : W.heap.size + 1 = (W.alloc (.cells #[.int .i64 0] 3)).heap.size := by simp
    generalize W.alloc (.cells #[.int .i64 0] 3) = W2 at hi2 hsz2 ⊢
    refine wpIn_rangeFunc_ownG rfl (by omega) (gf := 19) (lb := #[.pointer (some ⟨Bs, 0, none⟩)]) rfl trivial (enters_of Try.func19 (by kernel_rfl) rfl)
      (words_stops Bs (Bs + 1) s (by omega) (by omega) W2 hi2.2.1.2.2.1) belowK_t (belowK_b (by omega)) (Below.refl _ _) (fun _ => rfl)
      (I2 w s Bs W.heap.size D) (fun c pre _ => c = .ret ∧ ¬ good s pre) (I2_own w s Bs _ D _ (by omega) (by omega)) (fun c => ownFrom_pure _ _) hi2
      (fun x => { tmps := #[(.string s), (.pointer (some ⟨w.heap.size, 0, none⟩)), (.pointer (some ⟨w.heap.size + 1, 0, none⟩)), (.func (.func 19) #[] #[.pointer (some ⟨Bs, 0, none⟩)]), (.pointer (some ⟨W.heap.size, 0, none⟩)), (.int .i64 x.1), (.string x.2), undef, undef, undef, (.bool true), (.bool false), (.string s), (.int .i64 (s.size : Int)), (.bool (decide (2000 < (s.size : Int)))), (.string s), (.func (.func 19) #[] #[.pointer (some ⟨Bs, 0, none⟩)]), (.func (.func 19) #[] #[.pointer (some ⟨Bs, 0, none⟩)]), (.bool false), (.func (.func 19) #[] #[.pointer (some ⟨Bs, 0, none⟩)]), undef, undef, (.func (.func 19) #[] #[.pointer (some ⟨Bs, 0, none⟩)]), (.int .i64 x.1), (.string x.2), undef, undef, undef, undef, undef, undef, undef, undef, undef, undef, undef, undef, undef, undef, undef, undef, undef, undef, undef, undef, undef, undef, undef, undef, undef, undef, undef, undef, undef, undef, undef, undef, undef], defers := [] }) ?_ ?_ ?_ ?_
    · intro l x W K hK
      gi_wp2
      exact hK
    · rintro l pre ⟨f, v⟩ W3 ⟨hg, hk, h4, hd⟩ _
      have hple := placeN_le s pre.length
      have hcall := rword_any s (placeN s pre.length) (by omega)
      rw [placeOf_nat hple] at hcall
      have hfge := wordFrom_ge s (placeN s pre.length)
      have hfle := wordFrom_le hple
      have htrim := rtrim_any (s.extract (placeN s pre.length) (wordFrom s (placeN s pre.length))) (by rw [ByteArray.size_extract]; omega)
      rw [trim_gap s _ hple] at htrim
      have hsn := good_snoc (x := (f, v)) hg
      have hthr : there s pre.length ↔ 0 < (wordN s pre.length).2.size := by rw [wordN_size]; unfold there; omega
      have hwn : wordN s pre.length = (wordFrom s (placeN s pre.length), s.extract (wordFrom s (placeN s pre.length)) (wordTo s (placeN s pre.length))) := rfl
      have hnext : placeN s (pre ++ [(f, v)]).length = wordNext s (placeN s pre.length) := by rw [List.length_append]; rfl
      rw [hthr, hwn] at hsn
      have hcs := cell_one hk.1
      have Hnext := Lib.hid hnext
      clear hthr hwn hnext hg
      generalize s.extract (wordFrom s (placeN s pre.length)) (wordTo s (placeN s pre.length)) = X at *
      generalize wordFrom s (placeN s pre.length) = fr at *
      generalize wordNext s (placeN s pre.length) = nx at *
      generalize placeN s pre.length = p at *
      have hc4 := cell_one h4
      have Hsn := Lib.hid hsn
      have Hk := Lib.hid hk
      have H4 := Lib.hid h4
      have Hd := Lib.hid hd
      have i1 : (p : Int) ≤ (fr : Int) := Int.ofNat_le.2 hfge
      have i2 : (fr : Int) ≤ (s.size : Int) := Int.ofNat_le.2 hfle
      clear hsn hk h4 hd
      dsimp only
      by_cases c1 : v = X
      · by_cases c2 : f = fr
        · by_cases c3 : 0 < X.size
          · have hgood : good s (pre ++ [(f, v)]) := Hsn.out.2 ⟨by rw [c1, c2], by rw [← c1] at c3; rw [← c1]; exact c3⟩
            have Hg := Lib.hid hgood
            subst c1
            subst c2
            have hnl := nil_no c3
            clear c3 hgood
            gi_wp2_with fail
            refine ⟨trivial, (callsIn_wide.2 (hcall _)).mono ?_⟩
            rintro e W4 ⟨rfl, hb4⟩
            have hk4 := Hk.out.up hb4
            have h44 := blk_up H4.out hb4
            have hd4 := blk_up Hd.out hb4
            have hcs4 := cell_one hk4.1
            have hc44 := cell_one h44
            have Hk4 := Lib.hid hk4
            have H44 := Lib.hid h44
            have Hd4 := Lib.hid hd4
            clear hcs hc4 hk4 h44 hd4
            gi_wp2_with fail
            refine ⟨trivial, (callsIn_wide.2 (htrim _)).mono ?_⟩
            rintro e W5 ⟨rfl, hb5⟩
            have hk5 := Hk4.out.up hb5
            have h45 := blk_up H44.out hb5
            have hd5 := blk_up Hd4.out hb5
            have hf45 := frozen_of_row W5 W.heap.size 0 _ 3 h45
            have hc45 := cell_one h45
            have Hk5 := Lib.hid hk5
            have H45 := Lib.hid h45
            have Hd5 := Lib.hid hd5
            clear hcs4 hc44 hk5 h45 hd5
            gi_wp2_with fail
            have q1 : Bs + 1 ≤ W3.heap.size := blk_lt Hk.out.2.2.1
            have q2 : Bs + 1 ≤ W4.heap.size := Nat.le_trans q1 hb4.size
            refine ⟨(((keeps_below hb4).trans (keeps_below hb5)).trans (KeepsOthers.setCell _ _ _)).from _, ((hb4.mono q1).trans (hb5.mono q2)).setCell (by exact hsz1) _, Hg.out,
              ⟨blk_far Hk5.out.1 (by simp; omega) _, blk_far Hk5.out.2.1 (by simp; omega) _, blk_far Hk5.out.2.2.1 (by simp; omega) _, Hk5.out.2.2.2.setCell (by simp; omega) _⟩, ?_, blk_far Hd5.out (by simp; omega) _⟩
            rw [Hnext.out]
            exact heap_setCell_same W5 W.heap.size 0 _ 3 _ H45.out
          · have hbad : ¬ good s (pre ++ [(f, v)]) := fun h => c3 (Hsn.out.1 h).2
            have Hb := Lib.hid hbad
            have hz : X.size = 0 := by omega
            subst c1
            subst c2
            have hnl := nil_yes hz
            clear c3 hbad hz
            gi_wp2_with fail
            refine ⟨trivial, (callsIn_wide.2 (hcall _)).mono ?_⟩
            rintro e W4 ⟨rfl, hb4⟩
            have hk4 := Hk.out.up hb4
            have hcs4 := cell_one hk4.1
            have hc24 := cell_one hk4.2.1
            have hf24 := frozen_of_row W4 (w.heap.size + 1) 0 _ 4 hk4.2.1
            clear hcs hc4 hk4
            gi_wp2_with fail
            all_goals try (refine ⟨trivial, ?_⟩)
            all_goals try gi_wp2
            exact ⟨((keeps_below hb4).trans (KeepsOthers.setCell _ _ _)).from _, rfl, Hb.out⟩
        · have hbad : ¬ good s (pre ++ [(f, v)]) := fun h => c2 (by have := congrArg Prod.fst (Hsn.out.1 h).1; exact this)
          have Hb := Lib.hid hbad
          subst c1
          have hfi : ((f : Int) != (fr : Int)) = true := by simpa using fun e => c2 (Int.ofNat.inj e)
          have hfi2 : ((f : Int) == (fr : Int)) = false := by simpa using fun e => c2 (Int.ofNat.inj e)
          have hfi3 : ¬ (f : Int) = (fr : Int) := fun e => c2 (Int.ofNat.inj e)
          clear c2 hbad
          gi_wp2_with fail
          refine ⟨trivial, (callsIn_wide.2 (hcall _)).mono ?_⟩
          rintro e W4 ⟨rfl, hb4⟩
          have hk4 := Hk.out.up hb4
          have hcs4 := cell_one hk4.1
          have hc24 := cell_one hk4.2.1
          have hf24 := frozen_of_row W4 (w.heap.size + 1) 0 _ 4 hk4.2.1
          clear hcs hc4 hk4
          gi_wp2_with fail
          all_goals try (refine ⟨trivial, ?_⟩)
          all_goals try gi_wp2
          exact ⟨((keeps_below hb4).trans (KeepsOthers.setCell _ _ _)).from _, rfl, Hb.out⟩
      · have hbad : ¬ good s (pre ++ [(f, v)]) := fun h => c1 (by have := congrArg Prod.snd (Hsn.out.1 h).1; exact this)
        have Hb := Lib.hid hbad
        have hne1 := toList_ne c1
        have hne2 := toList_ne2 c1
        clear c1 hbad
        gi_wp2_with fail
        refine ⟨trivial, (callsIn_wide.2 (hcall _)).mono ?_⟩
        rintro e W4 ⟨rfl, hb4⟩
        have hk4 := Hk.out.up hb4
        have hcs4 := cell_one hk4.1
        have hc24 := cell_one hk4.2.1
        have hf24 := frozen_of_row W4 (w.heap.size + 1) 0 _ 4 hk4.2.1
        clear hcs hc4 hk4
        gi_wp2_with fail
        all_goals try (refine ⟨trivial, ?_⟩)
        all_goals try gi_wp2
        exact ⟨((keeps_below hb4).trans (KeepsOthers.setCell _ _ _)).from _, rfl, Hb.out⟩
    · rintro D2 ys W3 hD2 ⟨k, rfl, hth, hnt⟩ ⟨hg, hk, h4, hd⟩ hK2
      rw [wordsTo_len] at h4
      have hple := placeN_le s k
      have htrim := rtrim_any (s.extract (placeN s k) s.size) (by rw [ByteArray.size_extract]; omega)
      rw [trim_rest s k hnt] at htrim
      generalize placeN s k = p at *
      have i1 : (p : Int) ≤ (s.size : Int) := Int.ofNat_le.2 hple
      have hcs := cell_one hk.1
      have hc4 := cell_one h4
      have H4 := Lib.hid h4
      have Hd := Lib.hid hd
      have Hk := Lib.hid hk
      have HK2 := Lib.hid hK2
      clear h4 hd hk hg hK2 hth hnt
      gi_wp2_with fail
      refine ⟨trivial, (callsIn_wide.2 (htrim _)).mono ?_⟩
      rintro e W4 ⟨rfl, hb4⟩
      have hk4 := Hk.out.up hb4
      have hd4 := blk_up Hd.out hb4
      have hD24 := blk_up HK2.out hb4
      have hc2 := cell_one hk4.2.1
      have hf2 := frozen_of_row W4 (w.heap.size + 1) 0 _ 4 hk4.2.1
      have Hk4 := Lib.hid hk4
      have Hd4 := Lib.hid hd4
      have HD4 := Lib.hid hD24
      clear hk4 hd4 hD24 hcs hc4
      gi_wp2_with fail
      have hR : (W4.setCell ⟨w.heap.size + 1, 0, none⟩ (.bool true)).heap[w.heap.size + 1]? = some (.cells #[.bool true] 4 (0, 0)) := heap_setCell_same W4 (w.heap.size + 1) 0 _ 4 _ Hk4.out.2.1
      have hbw : Below w.heap.size w (W4.setCell ⟨w.heap.size + 1, 0, none⟩ (.bool true)) := Hk4.out.2.2.2.setCell (by simp) _
      have hd1 := blk_far (p := ⟨w.heap.size + 1, 0, none⟩) Hd4.out (by simp; omega) (.bool true)
      have hd2 := blk_far (p := ⟨w.heap.size + 1, 0, none⟩) HD4.out (by simp; omega) (.bool true)
      generalize W4.setCell ⟨w.heap.size + 1, 0, none⟩ (.bool true) = W5 at hR hbw hd1 hd2 ⊢
      have hne : D ≠ D2 := by omega
      refine ⟨by simp, .inl ⟨D2, _, rfl, run_takeDeferred hd2, ?_⟩⟩
      refine ⟨by simp, .inl ⟨D, _, rfl, run_takeDeferred ((World.putObj_heap_other hne).trans hd1), ?_⟩⟩
      have hR2 : ((W5.putObj D2 (.deferred none)).putObj D (.deferred none)).heap[w.heap.size + 1]? = some (.cells #[.bool true] 4 (0, 0)) := (World.putObj_heap_other (by omega)).trans ((World.putObj_heap_other (by omega)).trans hR)
      have hc := cell_one hR2
      refine ⟨.bool true, by simp [results, Try.results6, go_sem, hc], rfl, ?_⟩
      exact (hbw.grown (grownBy_putObj' _ _ _) hbw.size (fun k e => by cases e; omega)).grown (grownBy_putObj' _ _ _) (by simpa using hbw.size) (fun k e => by cases e; omega)
    · rintro D2 c pre W3 hD2 ⟨k, rfl, hth⟩ ⟨rfl, hbad⟩ _
      exact absurd (good_words hth) hbad
set_option maxRecDepth 100000 in
set_option maxHeartbeats 2000000 in
theorem each_long (s : ByteArray) (hs : ¬ s.size ≤ 2000) (w : World) :
    CallsIn Fence.wide 8 Try.prog 6 #[.string s] w fun e W' => e = .returned (.bool true) ∧ Below w.heap.size w W' := by
  have hsi : (2000 : Int) < (s.size : Int) := by omega
  refine callsIn_of_wp_marks Try.func6 rfl trivial ?_ rfl
  simp only [Try.ntmps6, List.size_toArray, List.length_cons, List.length_nil, Nat.reduceAdd, Nat.reduceSub, Array.replicate_succ, Array.replicate_zero, List.push_toArray, List.append_toArray, List.nil_append, List.cons_append]
  gi_wp2_with fail
  refine ⟨trivial, (callsIn_wide.2 (awake_any _)).mono ?_⟩
  rintro e w1 ⟨rfl, hb1⟩
  have hA : Below w.heap.size w ((w.alloc (.cells #[.string s] 9)).alloc (.cells #[.bool false] 4)) := ((Below.refl _ _).alloc (Nat.le_refl _) _).alloc (by simp) _
  have h1 : w1.heap[w.heap.size]? = some (.cells #[.string s] 9 (0, 0)) := blk_up (blk_alloc (heap_alloc_new w _) _) hb1
  have h2 : w1.heap[w.heap.size + 1]? = some (.cells #[.bool false] 4 (0, 0)) := blk_up (blk_new _ _ (by simp)) hb1
  have hbA : Below w.heap.size w w1 := hA.trans (hb1.mono hA.size)
  have hc1 := cell_one h1
  have hc2 := cell_one h2
  have hf2 := frozen_of_row w1 (w.heap.size + 1) 0 _ 4 h2
  clear hA hb1
  gi_wp2_with fail
  have hR : (w1.setCell ⟨w.heap.size + 1, 0, none⟩ (.bool true)).heap[w.heap.size + 1]? = some (.cells #[.bool true] 4 (0, 0)) := heap_setCell_same w1 (w.heap.size + 1) 0 _ 4 _ h2
  have hbw : Below w.heap.size w (w1.setCell ⟨w.heap.size + 1, 0, none⟩ (.bool true)) := hbA.setCell (by simp) _
  have hc := cell_one hR
  generalize w1.setCell ⟨w.heap.size + 1, 0, none⟩ (.bool true) = W5 at hR hbw hc ⊢
  exact ⟨.bool true, by simp [results, Try.results6, go_sem, hc], rfl, hbw⟩
theorem sourceEach_walk (W : World) (s : ByteArray) (hs : s.size ≤ 140737488351232) :
    Calls Try.prog 6 #[.string s] W fun e W' => e = .returned (.bool true) ∧ Below W.heap.size W W' := by
  by_cases h : s.size ≤ 2000
  · exact callsIn_wide.1 (each_walk s h W)
  · exact callsIn_wide.1 (each_long s h W)
end Go.Proofs.Ytkdmjkknkefemaa.Each
namespace Go.Proofs.Ytkdmjkknkefemaa
open Go.RowKit
theorem sourceEach_walk (W : World) (s : ByteArray) (hs : s.size ≤ 140737488351232) :
    Calls Try.prog 6 #[.string s] W fun e W' => e = .returned (.bool true) ∧ Below W.heap.size W W' := Each.sourceEach_walk W s hs
end Go.Proofs.Ytkdmjkknkefemaa
