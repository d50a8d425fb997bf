/-
  root: Choose, and the reference's.
-/
import Derived.Test.YtghpnhiliihlaaaRootH
namespace Go.Proofs.Ytghpnhiliihlaaa.Root
open Go.RowKit Go.Shelf Go.Proofs.Ytghpnhiliihlaaa
open Go.Proofs.YtghpnhiliihlaaaW.PrintWords (Kd)
attribute [local go_sem] Oper.semAt_some
set_option linter.unusedVariables false
set_option linter.unusedSimpArgs false

def takeB (a b : List Int) : Prop := decE b = 0 ∧ (decE a ≠ 0 ∨ decG a < decG b)
open Classical in
noncomputable def chG (a b : List Int) : Int := if takeB a b then decG b else decG a
open Classical in
noncomputable def chL (a b : List Int) : List S63 := if takeB a b then decL b else decL a
open Classical in
noncomputable def chW (a b : List Int) : Int := if takeB a b then 1 else 0
open Classical in
noncomputable def chE (a b : List Int) : Int := if takeB a b then 0 else decE a
theorem ch_yes {a b : List Int} (h : takeB a b) : chG a b = decG b ∧ chL a b = decL b ∧ chW a b = 1 ∧ chE a b = 0 := ⟨if_pos h, if_pos h, if_pos h, if_pos h⟩
theorem ch_no {a b : List Int} (h : ¬ takeB a b) : chG a b = decG a ∧ chL a b = decL a ∧ chW a b = 0 ∧ chE a b = decE a := ⟨if_neg h, if_neg h, if_neg h, if_neg h⟩
/-- What Choose has behind k sectors. -/
noncomputable def stG (a b : List Int) : Nat → Int
  | 0 => 0 | 1 => decG a | _ => chG a b
noncomputable def stL (a b : List Int) : Nat → List S63
  | 0 => [] | 1 => decL a | _ => chL a b
noncomputable def stW (a b : List Int) : Nat → Int
  | 0 => 0 | 1 => 0 | _ => chW a b
noncomputable def stE (a b : List Int) : Nat → Int
  | 0 => 30 | 1 => decE a | _ => chE a b
/-- One step: whether the k-th is taken. -/
theorem st_step (a b : List Int) (k : Nat) (hk : k < 2) (x : List Int) (hx : x = if k = 0 then a else b) :
    ((decE x = 0 ∧ (stE a b k ≠ 0 ∨ stG a b k < decG x)) → stG a b (k + 1) = decG x ∧ stL a b (k + 1) = decL x ∧ stW a b (k + 1) = k ∧ stE a b (k + 1) = 0) ∧
    (¬ (decE x = 0 ∧ (stE a b k ≠ 0 ∨ stG a b k < decG x)) → stG a b (k + 1) = stG a b k ∧ stL a b (k + 1) = stL a b k ∧ stW a b (k + 1) = stW a b k ∧ stE a b (k + 1) = stE a b k) := by
  rcases k with _ | _ | k
  · have hx : x = a := hx
    subst hx
    refine ⟨fun h => ⟨rfl, rfl, rfl, h.1⟩, fun h => ?_⟩
    have hno : ¬ recOk x := fun hr => h ⟨decE_yes hr, .inl (by show (30 : Int) ≠ 0; decide)⟩
    exact ⟨decG_no hno, decL_no hno, rfl, decE_no hno⟩
  · have hx : x = b := hx
    subst hx
    exact ⟨fun h => ch_yes h, fun h => ch_no h⟩
  · omega
theorem RRes.root {w W : World} (h : RRes w W) {g : Int} {l : List S63} {A : Option Addr} {c : Nat} (ho : RootIs W w.heap.size (.agg #[.int .u64 g, .slice A l.length c]) g l) :
    RootIs ((W.setCell ⟨w.heap.size, 0, none⟩ (.int .u64 g)).setCell ⟨w.heap.size, 1, none⟩ (.slice A l.length c)) w.heap.size (.agg #[.int .u64 g, .slice A l.length c]) g l :=
  (ho.set h.1 (by decide) _ _).set (heap_setCell_same W _ 0 _ 40 _ h.1) (by decide) _ _
/-- What holds between two sectors. -/
def ChSt (w : World) (S : Array Value) (g : Int) (l : List S63) (W : World) : Prop :=
  W.heap[w.heap.size]? = some (.cells #[.int .u64 0, .slice none 0 0] 40 (0, 0)) ∧ W.heap[w.heap.size + 2]? = some (.cells S 22 (0, 0)) ∧ Below w.heap.size w W ∧
  ∃ A c, W.heap[w.heap.size + 1]? = some (.cells #[.int .u64 g, .slice A l.length c] 40 (0, 0)) ∧ OwnSnaps W w.heap.size (.slice A l.length c) l
theorem ChSt.below {w W W' : World} {S : Array Value} {g : Int} {l : List S63} (h : ChSt w S g l W) (hb : Below W.heap.size W W') : ChSt w S g l W' := by
  obtain ⟨h1, h2, h3, A, c, h4, h5⟩ := h
  exact ⟨blk_below h1 hb (blk_lt h1), blk_below h2 hb (blk_lt h2), h3.trans (hb.mono h3.size), A, c, blk_below h4 hb (blk_lt h4), h5.step (fun q hq _ => hb.block q hq)⟩
theorem ChSt.put {w W : World} {S : Array Value} {g g' : Int} {l l' : List S63} {A : Option Addr} {c : Nat} (h : ChSt w S g l W) (ho : OwnSnaps W w.heap.size (.slice A l'.length c) l') :
    ChSt w S g' l' ((W.setCell ⟨w.heap.size + 1, 0, none⟩ (.int .u64 g')).setCell ⟨w.heap.size + 1, 1, none⟩ (.slice A l'.length c)) := by
  obtain ⟨h1, h2, h3, A', c', h4, h5⟩ := h
  have n1 : w.heap.size ≠ w.heap.size + 1 := by omega
  have n2 : w.heap.size + 2 ≠ w.heap.size + 1 := by omega
  refine ⟨(heap_set2 _ _ _ _ _ n1).trans ((heap_set2 _ _ _ _ _ n1).trans h1), (heap_set2 _ _ _ _ _ n2).trans ((heap_set2 _ _ _ _ _ n2).trans h2), (h3.setCell (by simp) _).setCell (by simp) _, A, c, ?_, ?_⟩
  · exact heap_setCell_same _ _ 1 _ 40 _ (heap_setCell_same W _ 0 _ 40 _ h4)
  · refine ho.step fun q hq hc => ?_
    have hne : q ≠ w.heap.size + 1 := fun e => by
      obtain ⟨cells, hc⟩ := hc
      rw [e, h4] at hc
      injection hc with hc
      injection hc with _ e2 _
      revert e2; decide
    exact (heap_set2 _ _ _ _ _ hne).trans (heap_set2 _ _ _ _ _ hne)
set_option maxRecDepth 100000 in
set_option maxHeartbeats 2000000 in
theorem choose_any (A A' : Option Addr) (n c n' c' : Nat) (a b : List Int) (w : World) (ha : BytesAt w w.heap.size A n a) (hnc : n ≤ c) (hn : n ≤ 140737488351232) (hb : BytesAt w w.heap.size A' n' b) (hnc' : n' ≤ c') (hn' : n' ≤ 140737488351232) :
    Calls Try.prog 35 #[.slice A n c, .slice A' n' c'] w fun e w' => Below w.heap.size w w' ∧ ∃ v, e = .returned (.tuple #[v, .int .i64 (chW a b), .int .i64 (chE a b)]) ∧ RootIs w' w.heap.size v (chG a b) (chL a b) := by
  go_enter Try.func35, Try.ntmps35
  go_wp2_with fail
  have hS0 : ChSt w #[.slice A n c, .slice A' n' c'] 0 [] (((w.alloc (.cells #[.int .u64 0, .slice none 0 0] 40)).alloc (.cells #[.int .u64 0, .slice none 0 0] 40)).alloc (.cells #[.slice A n c, .slice A' n' c'] 22)) :=
    ⟨blk_alloc (blk_alloc (heap_alloc_new _ _) _) _, blk_new _ _ (by simp), (((Below.refl _ _).alloc (Nat.le_refl _) _).alloc (by simp) _).alloc (by simp; omega) _, none, 0, blk_alloc (blk_new _ _ (by simp)) _, Kd.R_nil _ _ _ _ _⟩
  go_loopw [8, 9, 19] (fun wh er i wr => ∃ k : Nat, k ≤ 2 ∧ i = .int .i64 k ∧ wh = .int .i64 (stW a b k) ∧ er = .int .i64 (stE a b k) ∧ ChSt w #[.slice A n c, .slice A' n' c'] (stG a b k) (stL a b k) wr) (fun _ _ i _ => 2 - (intOf i).toNat)
  case atStart => exact ⟨0, Nat.zero_le _, rfl, rfl, rfl, hS0⟩
  case round =>
    obtain ⟨k, hk, rfl, rfl, rfl, hS⟩ := hrel
    clear hS0
    by_cases hlt : k < 2
    · have i1 : (k : Int) < 2 := Int.ofNat_lt.2 hlt
      have hnx : wrap64 ((k : Int) + 1) = ((k + 1 : Nat) : Int) := wrap_nat (by omega)
      obtain ⟨x, Ax, nx, cx, hx, hcx, hbx, hncx, hnx2⟩ : ∃ x Ax nx cx, x = (if k = 0 then a else b) ∧ wr.cell? ⟨w.heap.size + 2, k, none⟩ = some (.slice Ax nx cx) ∧ BytesAt w w.heap.size Ax nx x ∧ nx ≤ cx ∧ nx ≤ 140737488351232 := by
        rcases Nat.lt_or_ge 0 k with h | h
        · obtain rfl : k = 1 := by omega
          exact ⟨b, A', n', c', rfl, cell_of_row _ _ 1 _ _ _ hS.2.1, hb, hnc', hn'⟩
        · obtain rfl : k = 0 := by omega
          exact ⟨a, A, n, c, rfl, cell_of_row _ _ 0 _ _ _ hS.2.1, ha, hnc, hn⟩
      obtain ⟨st1, st2⟩ := st_step a b k hlt x hx
      have hD := decode_is Ax nx cx x wr ((hbx.below hS.2.2.1).more hS.2.2.1.size) hncx hnx2
      clear hbx hx
      generalize decG x = gx at *
      generalize decL x = lx at *
      generalize decE x = ex at *
      generalize stG a b k = g at *
      generalize stL a b k = l at *
      generalize stW a b k = wh at *
      generalize stE a b k = er at *
      have HS := Lib.hid hS
      have Hst1 := Lib.hid st1
      have Hst2 := Lib.hid st2
      clear hS st1 st2
      go_wp2_with fail
      refine hD.mono ?_
      rintro e W5 ⟨hb5, v5, rfl, A5, c5, rfl, ho5⟩
      have hS5 := ChSt.below HS.out hb5
      have hS6 := ChSt.below hS5 ((Below.refl _ _).alloc (Nat.le_refl _) (.cells #[.int .u64 gx, .slice A5 lx.length c5] 40))
      have ho6 : OwnSnaps (W5.alloc (.cells #[.int .u64 gx, .slice A5 lx.length c5] 40)) w.heap.size (.slice A5 lx.length c5) lx := Kd.R_lower (base := wr.heap.size) (OwnSnaps.step ho5 (fun q hq _ => Below.heap_alloc W5 _ q hq)) HS.out.2.2.1.size
      have hx6 : (W5.alloc (.cells #[.int .u64 gx, .slice A5 lx.length c5] 40)).heap[W5.heap.size]? = some (.cells #[.int .u64 gx, .slice A5 lx.length c5] 40 (0, 0)) := heap_alloc_new _ _
      clear hS5 ho5 hb5 HS hcx
      have hms : 2 - (k + 1) < 2 - k := by omega
      obtain ⟨A7, c7, h7, h7o⟩ := hS6.2.2.2
      have q0 := cell_of_row _ _ 0 _ _ _ hx6
      have q1 := cell_of_row _ _ 1 _ _ _ hx6
      have q2 := cell_of_row _ _ 0 _ _ _ h7
      have q3 := cell_of_row _ _ 1 _ _ _ h7
      change _ = some (Value.int .u64 gx) at q0
      change _ = some (Value.slice A5 lx.length c5) at q1
      change _ = some (Value.int .u64 g) at q2
      change _ = some (Value.slice A7 l.length c7) at q3
      have f0 := frozen_blk h7 0
      have f1 := frozen_blk h7 1
      have HS6 := Lib.hid hS6
      have Ho6 := Lib.hid ho6
      clear hS6 ho6 hx6 h7 h7o
      by_cases c1 : ex = 0
      · subst c1
        by_cases c2 : er = 0
        · subst c2
          by_cases c3 : g < gx
          · have d3 : decide (g < gx) = true := decide_eq_true c3
            go_wp2_with fail
            go_roundw
            case rel =>
              obtain ⟨e1, e2, e3, e4⟩ := Hst1.out ⟨by first | rfl | trivial, .inr c3⟩
              exact ⟨k + 1, hlt, by first | rfl | rw [hnx], by rw [e3], by rw [e4], by rw [e1, e2]; exact HS6.out.put Ho6.out⟩
            case measure => first | exact hms | (rw [hnx]; exact hms) | (simp [intOf]; omega)
          · have d3 : decide (g < gx) = false := decide_eq_false c3
            go_wp2_with fail
            go_roundw
            case rel =>
              obtain ⟨e1, e2, e3, e4⟩ := Hst2.out (fun h => by rcases h.2 with h | h <;> omega)
              exact ⟨k + 1, hlt, by first | rfl | rw [hnx], by rw [e3], by rw [e4], by rw [e1, e2]; exact HS6.out⟩
            case measure => first | exact hms | (rw [hnx]; exact hms) | (simp [intOf]; omega)
        · have b2 : (er == 0) = false := beq_eq_false_iff_ne.2 c2
          have b3 : (er != 0) = true := by rw [bne, b2]; rfl
          go_wp2_with fail
          go_roundw
          case rel =>
            obtain ⟨e1, e2, e3, e4⟩ := Hst1.out ⟨by first | rfl | trivial, .inl c2⟩
            exact ⟨k + 1, hlt, by first | rfl | rw [hnx], by rw [e3], by rw [e4], by rw [e1, e2]; exact HS6.out.put Ho6.out⟩
          case measure => first | exact hms | (rw [hnx]; exact hms) | (simp [intOf]; omega)
      · have b2 : (ex == 0) = false := beq_eq_false_iff_ne.2 c1
        go_wp2_with fail
        go_roundw
        case rel =>
          obtain ⟨e1, e2, e3, e4⟩ := Hst2.out (fun h => c1 h.1)
          exact ⟨k + 1, hlt, by first | rfl | rw [hnx], by rw [e3], by rw [e4], by rw [e1, e2]; exact HS6.out⟩
        case measure => first | exact hms | (rw [hnx]; exact hms) | (simp [intOf]; omega)
    · obtain rfl : k = 2 := by omega
      obtain ⟨A7, c7, h7, h7o⟩ := hS.2.2.2
      have q2 := cell_of_row _ _ 0 _ _ _ h7
      have q3 := cell_of_row _ _ 1 _ _ _ h7
      change _ = some (Value.int .u64 (chG a b)) at q2
      change _ = some (Value.slice A7 (chL a b).length c7) at q3
      have q4 := cell_of_row _ _ 0 _ _ _ hS.1
      have q5 := cell_of_row _ _ 1 _ _ _ hS.1
      change _ = some (Value.int .u64 0) at q4
      change _ = some (Value.slice none 0 0) at q5
      have f0 := frozen_blk hS.1 0
      have f1 := frozen_blk hS.1 1
      have HS := Lib.hid hS
      have H7 := Lib.hid h7o
      change Hid (OwnSnaps wr w.heap.size (.slice A7 (chL a b).length c7) (chL a b)) at H7
      clear hS h7 h7o
      go_wp2_with fail
      have hRR : RRes w wr := ⟨HS.out.1, HS.out.2.2.1⟩
      obtain ⟨l1, l2⟩ := hRR.laid (.int .u64 (chG a b)) (.slice A7 (chL a b).length c7)
      have l3 := hRR.root (g := chG a b) ⟨A7, c7, rfl, H7.out⟩
      clear f0 f1 q2 q3 q4 q5 H7 HS
      generalize (wr.setCell ⟨w.heap.size, 0, none⟩ (.int .u64 (chG a b))).setCell ⟨w.heap.size, 1, none⟩ (.slice A7 (chL a b).length c7) = W4 at l1 l2 l3 ⊢
      have hc0 : W4.cell? ⟨w.heap.size, 0, none⟩ = some (.int .u64 (chG a b)) := cell_of_row W4 _ 0 _ _ _ l1
      have hc1 : W4.cell? ⟨w.heap.size, 1, none⟩ = some (.slice A7 (chL a b).length c7) := cell_of_row W4 _ 1 _ _ _ l1
      exact ⟨rfl, .tuple #[.agg #[.int .u64 (chG a b), .slice A7 (chL a b).length c7], .int .i64 (chW a b), .int .i64 (chE a b)], by simp [results, Try.results35, go_sem, hc0, hc1, stW, stE], l2, _, rfl, l3⟩
set_option maxRecDepth 100000 in
set_option maxHeartbeats 2000000 in
theorem rchoose_any (A A' : Option Addr) (n c n' c' : Nat) (a b : List Int) (w : World) (ha : BytesAt w w.heap.size A n a) (hnc : n ≤ c) (hn : n ≤ 140737488351232) (hb : BytesAt w w.heap.size A' n' b) (hnc' : n' ≤ c') (hn' : n' ≤ 140737488351232) :
    Calls Try.prog 36 #[.slice A n c, .slice A' n' c'] w fun e w' => Below w.heap.size w w' ∧ ∃ v, e = .returned (.tuple #[v, .int .i64 (chW a b), .int .i64 (chE a b)]) ∧ RootIs w' w.heap.size v (chG a b) (chL a b) := by
  have hR0 : RRes w (w.alloc (.cells #[.int .u64 0, .slice none 0 0] 40)) := ⟨heap_alloc_new _ _, (Below.refl _ _).alloc (Nat.le_refl _) _⟩
  go_enter Try.func36, Try.ntmps36
  go_wp2_with fail
  refine (rdecode_is A n c a _ ((ha.below hR0.2).more hR0.2.size) hnc hn).mono ?_
  rintro e W1 ⟨hb1, v1, rfl, A1, c1', rfl, ho1⟩
  have hR1 : RRes w W1 := ⟨blk_below hR0.1 hb1 (blk_lt hR0.1), hR0.2.trans (hb1.mono hR0.2.size)⟩
  have ho1 : OwnSnaps W1 w.heap.size (.slice A1 (decL a).length c1') (decL a) := Kd.R_lower ho1 hR0.2.size
  clear hb1 hR0
  have HR1 := Lib.hid hR1
  have Ho1 := Lib.hid ho1
  clear hR1 ho1
  go_wp2_with fail
  have hx : (W1.alloc (.cells #[.int .u64 (decG a), .slice A1 (decL a).length c1'] 40)).heap[W1.heap.size]? = some (.cells #[.int .u64 (decG a), .slice A1 (decL a).length c1'] 40 (0, 0)) := heap_alloc_new _ _
  have hR2 : RRes w (W1.alloc (.cells #[.int .u64 (decG a), .slice A1 (decL a).length c1'] 40)) := ⟨blk_alloc HR1.out.1 _, HR1.out.2.alloc HR1.out.2.size _⟩
  have ho2 : OwnSnaps (W1.alloc (.cells #[.int .u64 (decG a), .slice A1 (decL a).length c1'] 40)) w.heap.size (.slice A1 (decL a).length c1') (decL a) := OwnSnaps.step Ho1.out (fun q hq _ => Below.heap_alloc W1 _ q hq)
  generalize W1.alloc (.cells #[.int .u64 (decG a), .slice A1 (decL a).length c1'] 40) = W2 at hx hR2 ho2 ⊢
  generalize W1.heap.size = ga at hx ⊢
  refine (rdecode_is A' n' c' b W2 ((hb.below hR2.2).more hR2.2.size) hnc' hn').mono ?_
  rintro e W3 ⟨hb3, v3, rfl, A3, c3, rfl, ho3⟩
  have hR3 : RRes w W3 := ⟨blk_below hR2.1 hb3 (blk_lt hR2.1), hR2.2.trans (hb3.mono hR2.2.size)⟩
  have hx3 := blk_below hx hb3 (blk_lt hx)
  have ho2 : OwnSnaps W3 w.heap.size (.slice A1 (decL a).length c1') (decL a) := OwnSnaps.step ho2 (fun q hq _ => hb3.block q hq)
  have ho3 : OwnSnaps W3 w.heap.size (.slice A3 (decL b).length c3) (decL b) := Kd.R_lower ho3 hR2.2.size
  clear hb3 hR2 hx
  have hy : (W3.alloc (.cells #[.int .u64 (decG b), .slice A3 (decL b).length c3] 40)).heap[W3.heap.size]? = some (.cells #[.int .u64 (decG b), .slice A3 (decL b).length c3] 40 (0, 0)) := heap_alloc_new _ _
  have hx4 : (W3.alloc (.cells #[.int .u64 (decG b), .slice A3 (decL b).length c3] 40)).heap[ga]? = some (.cells #[.int .u64 (decG a), .slice A1 (decL a).length c1'] 40 (0, 0)) := blk_alloc hx3 _
  have hR4 : RRes w (W3.alloc (.cells #[.int .u64 (decG b), .slice A3 (decL b).length c3] 40)) := ⟨blk_alloc hR3.1 _, hR3.2.alloc hR3.2.size _⟩
  have ho4 : OwnSnaps (W3.alloc (.cells #[.int .u64 (decG b), .slice A3 (decL b).length c3] 40)) w.heap.size (.slice A1 (decL a).length c1') (decL a) := OwnSnaps.step ho2 (fun q hq _ => Below.heap_alloc W3 _ q hq)
  have ho5 : OwnSnaps (W3.alloc (.cells #[.int .u64 (decG b), .slice A3 (decL b).length c3] 40)) w.heap.size (.slice A3 (decL b).length c3) (decL b) := OwnSnaps.step ho3 (fun q hq _ => Below.heap_alloc W3 _ q hq)
  clear ho2 ho3 hR3 hx3
  obtain ⟨f0, f1, f2, f3⟩ := hR4.facts
  have q0 := cell_of_row _ _ 0 _ _ _ hx4
  have q1 := cell_of_row _ _ 1 _ _ _ hx4
  have q2 := cell_of_row _ _ 0 _ _ _ hy
  have q3 := cell_of_row _ _ 1 _ _ _ hy
  change _ = some (Value.int .u64 (decG a)) at q0
  change _ = some (Value.slice A1 (decL a).length c1') at q1
  change _ = some (Value.int .u64 (decG b)) at q2
  change _ = some (Value.slice A3 (decL b).length c3) at q3
  have hyes := ch_yes (a := a) (b := b)
  have hno := ch_no (a := a) (b := b)
  unfold takeB at hyes hno
  have hzero : ¬ decE a = 0 → decG a = 0 ∧ decL a = [] ∧ decE a = 30 := fun h => by
    have : ¬ recOk a := fun h2 => h (decE_yes h2)
    exact ⟨decG_no this, decL_no this, decE_no this⟩
  generalize decG b = gb at *
  generalize decL b = lb at *
  generalize decE b = eb at *
  generalize decG a = g1 at *
  generalize decL a = l1 at *
  generalize decE a = e1 at *
  have HR4 := Lib.hid hR4
  have Ho4 := Lib.hid ho4
  have Ho5 := Lib.hid ho5
  have Hyes := Lib.hid hyes
  have Hno := Lib.hid hno
  have Hzero := Lib.hid hzero
  clear hR4 ho4 ho5 hyes hno hzero hx4 hy HR1 Ho1
  by_cases c1 : e1 = 0
  · subst c1
    by_cases c2 : eb = 0
    · subst c2
      by_cases c4 : g1 < gb
      · have d4 : decide (g1 < gb) = true := decide_eq_true c4
        go_wp2_with fail
        generalize W3.alloc (.cells #[.int .u64 gb, .slice A3 lb.length c3] 40) = W4 at *
        obtain ⟨k1, k2⟩ := HR4.out.laid (.int .u64 gb) (.slice A3 lb.length c3)
        have k3 := HR4.out.root (g := gb) (l := lb) (A := A3) (c := c3) ⟨A3, c3, rfl, Ho5.out⟩
        obtain ⟨e1, e2, e3, e4⟩ := Hyes.out ⟨by first | rfl | trivial, .inr c4⟩
        clear f0 f1 f2 f3 q0 q1 q2 q3
        generalize (W4.setCell ⟨w.heap.size, 0, none⟩ (.int .u64 gb)).setCell ⟨w.heap.size, 1, none⟩ (.slice A3 lb.length c3) = W6 at k1 k2 k3 ⊢
        have hc0 : W6.cell? ⟨w.heap.size, 0, none⟩ = some (.int .u64 gb) := cell_of_row W6 _ 0 _ _ _ k1
        have hc1 : W6.cell? ⟨w.heap.size, 1, none⟩ = some (.slice A3 lb.length c3) := cell_of_row W6 _ 1 _ _ _ k1
        rw [e1, e2, e3, e4]
        exact ⟨rfl, .tuple #[.agg #[.int .u64 gb, .slice A3 lb.length c3], .int .i64 1, .int .i64 0], by simp [results, Try.results36, go_sem, hc0, hc1], k2, _, rfl, k3⟩
      · have d4 : decide (g1 < gb) = false := decide_eq_false c4
        go_wp2_with fail
        generalize W3.alloc (.cells #[.int .u64 gb, .slice A3 lb.length c3] 40) = W4 at *
        obtain ⟨k1, k2⟩ := HR4.out.laid (.int .u64 g1) (.slice A1 l1.length c1')
        have k3 := HR4.out.root (g := g1) (l := l1) (A := A1) (c := c1') ⟨A1, c1', rfl, Ho4.out⟩
        obtain ⟨e1, e2, e3, e4⟩ := Hno.out (fun h => by rcases h.2 with h | h <;> omega)
        clear f0 f1 f2 f3 q0 q1 q2 q3
        generalize (W4.setCell ⟨w.heap.size, 0, none⟩ (.int .u64 g1)).setCell ⟨w.heap.size, 1, none⟩ (.slice A1 l1.length c1') = W6 at k1 k2 k3 ⊢
        have hc0 : W6.cell? ⟨w.heap.size, 0, none⟩ = some (.int .u64 g1) := cell_of_row W6 _ 0 _ _ _ k1
        have hc1 : W6.cell? ⟨w.heap.size, 1, none⟩ = some (.slice A1 l1.length c1') := cell_of_row W6 _ 1 _ _ _ k1
        rw [e1, e2, e3, e4]
        exact ⟨rfl, .tuple #[.agg #[.int .u64 g1, .slice A1 l1.length c1'], .int .i64 0, .int .i64 0], by simp [results, Try.results36, go_sem, hc0, hc1], k2, _, rfl, k3⟩
    · have b2 : (eb == 0) = false := beq_eq_false_iff_ne.2 c2
      have b3 : (eb != 0) = true := by rw [bne, b2]; rfl
      go_wp2_with fail
      generalize W3.alloc (.cells #[.int .u64 gb, .slice A3 lb.length c3] 40) = W4 at *
      obtain ⟨k1, k2⟩ := HR4.out.laid (.int .u64 g1) (.slice A1 l1.length c1')
      have k3 := HR4.out.root (g := g1) (l := l1) (A := A1) (c := c1') ⟨A1, c1', rfl, Ho4.out⟩
      obtain ⟨e1, e2, e3, e4⟩ := Hno.out (fun h => c2 h.1)
      clear f0 f1 f2 f3 q0 q1 q2 q3
      generalize (W4.setCell ⟨w.heap.size, 0, none⟩ (.int .u64 g1)).setCell ⟨w.heap.size, 1, none⟩ (.slice A1 l1.length c1') = W6 at k1 k2 k3 ⊢
      have hc0 : W6.cell? ⟨w.heap.size, 0, none⟩ = some (.int .u64 g1) := cell_of_row W6 _ 0 _ _ _ k1
      have hc1 : W6.cell? ⟨w.heap.size, 1, none⟩ = some (.slice A1 l1.length c1') := cell_of_row W6 _ 1 _ _ _ k1
      rw [e1, e2, e3, e4]
      exact ⟨rfl, .tuple #[.agg #[.int .u64 g1, .slice A1 l1.length c1'], .int .i64 0, .int .i64 0], by simp [results, Try.results36, go_sem, hc0, hc1], k2, _, rfl, k3⟩
  · have b2 : (e1 == 0) = false := beq_eq_false_iff_ne.2 c1
    have b3 : (e1 != 0) = true := by rw [bne, b2]; rfl
    by_cases c2 : eb = 0
    · subst c2
      go_wp2_with fail
      generalize W3.alloc (.cells #[.int .u64 gb, .slice A3 lb.length c3] 40) = W4 at *
      obtain ⟨k1, k2⟩ := HR4.out.laid (.int .u64 gb) (.slice A3 lb.length c3)
      have k3 := HR4.out.root (g := gb) (l := lb) (A := A3) (c := c3) ⟨A3, c3, rfl, Ho5.out⟩
      obtain ⟨e1, e2, e3, e4⟩ := Hyes.out ⟨by first | rfl | trivial, .inl c1⟩
      clear f0 f1 f2 f3 q0 q1 q2 q3
      generalize (W4.setCell ⟨w.heap.size, 0, none⟩ (.int .u64 gb)).setCell ⟨w.heap.size, 1, none⟩ (.slice A3 lb.length c3) = W6 at k1 k2 k3 ⊢
      have hc0 : W6.cell? ⟨w.heap.size, 0, none⟩ = some (.int .u64 gb) := cell_of_row W6 _ 0 _ _ _ k1
      have hc1 : W6.cell? ⟨w.heap.size, 1, none⟩ = some (.slice A3 lb.length c3) := cell_of_row W6 _ 1 _ _ _ k1
      rw [e1, e2, e3, e4]
      exact ⟨rfl, .tuple #[.agg #[.int .u64 gb, .slice A3 lb.length c3], .int .i64 1, .int .i64 0], by simp [results, Try.results36, go_sem, hc0, hc1], k2, _, rfl, k3⟩
    · have b4 : (eb == 0) = false := beq_eq_false_iff_ne.2 c2
      have b5 : (eb != 0) = true := by rw [bne, b4]; rfl
      go_wp2_with fail
      generalize W3.alloc (.cells #[.int .u64 gb, .slice A3 lb.length c3] 40) = W4 at *
      obtain ⟨k1, k2⟩ := HR4.out.laid (.int .u64 0) (.slice none 0 0)
      have k3 := HR4.out.root (g := 0) (l := []) (A := none) (c := 0) (RootIs.none _ _)
      obtain ⟨e1, e2, e3, e4⟩ := Hno.out (fun h => c2 h.1)
      clear f0 f1 f2 f3 q0 q1 q2 q3
      generalize (W4.setCell ⟨w.heap.size, 0, none⟩ (.int .u64 0)).setCell ⟨w.heap.size, 1, none⟩ (.slice none 0 0) = W6 at k1 k2 k3 ⊢
      have hc0 : W6.cell? ⟨w.heap.size, 0, none⟩ = some (.int .u64 0) := cell_of_row W6 _ 0 _ _ _ k1
      have hc1 : W6.cell? ⟨w.heap.size, 1, none⟩ = some (.slice none 0 0) := cell_of_row W6 _ 1 _ _ _ k1
      obtain ⟨z1, z2, z3⟩ := Hzero.out c1
      rw [e1, e2, e3, e4, z1, z2, z3]
      exact ⟨rfl, .tuple #[.agg #[.int .u64 0, .slice none 0 0], .int .i64 0, .int .i64 30], by simp [results, Try.results36, go_sem, hc0, hc1], k2, _, rfl, k3⟩
end Go.Proofs.Ytghpnhiliihlaaa.Root
