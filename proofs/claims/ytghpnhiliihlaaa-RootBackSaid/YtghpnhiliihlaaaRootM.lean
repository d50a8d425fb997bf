/-
  RootBack: the law's walk.
-/
import Derived.Test.YtghpnhiliihlaaaRootL
namespace Go.Proofs.Ytghpnhiliihlaaa.Root
open Go.RowKit Go.Shelf Go.Proofs.Ytghpnhiliihlaaa
open Go.Proofs.YtghpnhiliihlaaaW.PrintWords (Kd)
attribute [local go_sem] Oper.semAt_some
set_option linter.unusedVariables false
set_option linter.unusedSimpArgs false

set_option maxRecDepth 100000 in
set_option maxHeartbeats 4000000 in
theorem back_walk (w : World) (g : Int) (A : Option Addr) (c : Nat) (l : List S63) (h : SnapsAt w A l) (hc : l.length ≤ c) (hw : rootWf g l) (A' : Option Addr) (n' c' : Nat) (bs : List Int) (h' : BytesAt w w.heap.size A' n' bs) (hnc' : n' ≤ c') (hn : l.length ≤ 100) (hn' : n' ≤ 1000) :
    Calls Try.prog 12 #[.agg #[.int .u64 g, .slice A l.length c], .slice A' n' c'] w fun e w' => e = .returned (.bool true) ∧ Below w.heap.size w w' := by
  have hni : ¬ (100 : Int) < (l.length : Int) := by omega
  have hni' : ¬ (1000 : Int) < (n' : Int) := by omega
  have hd1 : decide ((100 : Int) < (l.length : Int)) = false := decide_eq_false hni
  have hd2 : decide ((1000 : Int) < (n' : Int)) = false := decide_eq_false hni'
  have hd3 : decide (100 < l.length) = false := decide_eq_false (by omega)
  have hd4 : decide (1000 < n') = false := decide_eq_false (by omega)
  have hb0 : Below w.heap.size w (w.alloc (.cells #[.int .u64 g, .slice A l.length c] 40)) := (Below.refl _ _).alloc (Nat.le_refl _) _
  have hr0 : (w.alloc (.cells #[.int .u64 g, .slice A l.length c] 40)).heap[w.heap.size]? = some (.cells #[.int .u64 g, .slice A l.length c] 40 (0, 0)) := heap_alloc_new _ _
  go_enter Try.func12, Try.ntmps12
  go_wp2_with fail
  refine (rootAwake_any _).mono ?_
  rintro e w1 ⟨rfl, hb1⟩
  have hr1 := blk_below hr0 hb1 (blk_lt hr0)
  have hbA := hb0.trans (hb1.mono hb0.size)
  have q0 : w1.cell? ⟨w.heap.size, 0, none⟩ = some (.int .u64 g) := cell_of_row _ _ 0 _ _ _ hr1
  have q1 : w1.cell? ⟨w.heap.size, 1, none⟩ = some (.slice A l.length c) := cell_of_row _ _ 1 _ _ _ hr1
  clear hb0 hr0 hb1
  by_cases hok : okRoot g l
  · obtain ⟨x1, x2, x3, x4⟩ := enc_rec hok hw
    go_wp2_with fail
    refine (encode_yes g A c l w1 (h.below hbA) hc (by omega) hok).mono ?_
    rintro e W2 ⟨⟨A2, c2, rfl, ho2⟩, hb2⟩
    have hr2 := blk_below hr1 hb2 (blk_lt hr1)
    have hbE := hbA.trans (hb2.mono hbA.size)
    have hcap := ho2.cap
    have hB2 := ho2.at_ (encR_range g l)
    clear q0 q1 hr1 ho2 hb2
    go_wp2_with fail
    refine (decode_is A2 64 c2 _ W2 hB2 hcap (by decide)).mono ?_
    rintro e W3 ⟨hb3, v3, rfl, A3, c3, rfl, ho3⟩
    rw [x3] at ho3
    rw [x2, x3, x4]
    have hx3 : (W3.alloc (.cells #[.int .u64 g, .slice A3 l.length c3] 40)).heap[W3.heap.size]? = some (.cells #[.int .u64 g, .slice A3 l.length c3] 40 (0, 0)) := heap_alloc_new _ _
    have hr3 : (W3.alloc (.cells #[.int .u64 g, .slice A3 l.length c3] 40)).heap[w.heap.size]? = some (.cells #[.int .u64 g, .slice A l.length c] 40 (0, 0)) := blk_alloc (blk_below hr2 hb3 (blk_lt hr2)) _
    have hbF : Below w.heap.size w (W3.alloc (.cells #[.int .u64 g, .slice A3 l.length c3] 40)) := (hbE.trans (hb3.mono hbE.size)).alloc (Nat.le_trans hbE.size hb3.size) _
    have hro3 : RootIs (W3.alloc (.cells #[.int .u64 g, .slice A3 l.length c3] 40)) W2.heap.size (.agg #[.int .u64 g, .slice A3 l.length c3]) g l := RootIs.below ⟨A3, c3, rfl, ho3⟩ ((Below.refl _ _).alloc (Nat.le_refl _) _)
    obtain ⟨B3, d3, he3, hl3, hs3⟩ := hro3.snaps
    cases he3
    have q2 : (W3.alloc (.cells #[.int .u64 g, .slice A3 l.length c3] 40)).cell? ⟨w.heap.size, 0, none⟩ = some (.int .u64 g) := cell_of_row _ _ 0 _ _ _ hr3
    have q3 : (W3.alloc (.cells #[.int .u64 g, .slice A3 l.length c3] 40)).cell? ⟨w.heap.size, 1, none⟩ = some (.slice A l.length c) := cell_of_row _ _ 1 _ _ _ hr3
    have q4 : (W3.alloc (.cells #[.int .u64 g, .slice A3 l.length c3] 40)).cell? ⟨W3.heap.size, 0, none⟩ = some (.int .u64 g) := cell_of_row _ _ 0 _ _ _ hx3
    have q5 : (W3.alloc (.cells #[.int .u64 g, .slice A3 l.length c3] 40)).cell? ⟨W3.heap.size, 1, none⟩ = some (.slice A3 l.length c3) := cell_of_row _ _ 1 _ _ _ hx3
    have hS := same03_any g g A A3 c c3 l l _ (h.below hbF) hc hs3 hl3 (by omega)
    rw [decide_eq_true ⟨rfl, rfl⟩] at hS
    clear hx3 hr3 hro3 hs3 ho3 hb3 hr2 hB2 x1 x2 x3 x4
    go_wp2_with fail
    refine hS.mono ?_
    rintro e WN ⟨rfl, hb4⟩
    have hbB := hbF.trans (hb4.mono hbF.size)
    clear q2 q3 q4 q5 hb4
    go_wp2_with fail
    refine (decode_is A' n' c' bs WN ((h'.below hbB).more hbB.size) hnc' (by omega)).mono ?_
    rintro e W5 ⟨hb5, v5, rfl, A5, c5, rfl, ho5⟩
    have hbC := hbB.trans (hb5.mono hbB.size)
    have hx5 : (W5.alloc (.cells #[.int .u64 (decG bs), .slice A5 (decL bs).length c5] 40)).heap[W5.heap.size]? = some (.cells #[.int .u64 (decG bs), .slice A5 (decL bs).length c5] 40 (0, 0)) := heap_alloc_new _ _
    have hbD : Below w.heap.size w (W5.alloc (.cells #[.int .u64 (decG bs), .slice A5 (decL bs).length c5] 40)) := hbC.alloc hbC.size _
    have hr5 : RootIs (W5.alloc (.cells #[.int .u64 (decG bs), .slice A5 (decL bs).length c5] 40)) WN.heap.size (.agg #[.int .u64 (decG bs), .slice A5 (decL bs).length c5]) (decG bs) (decL bs) := RootIs.below ⟨A5, c5, rfl, ho5⟩ ((Below.refl _ _).alloc (Nat.le_refl _) _)
    have u0 : (W5.alloc (.cells #[.int .u64 (decG bs), .slice A5 (decL bs).length c5] 40)).cell? ⟨W5.heap.size, 0, none⟩ = some (.int .u64 (decG bs)) := cell_of_row _ _ 0 _ _ _ hx5
    have u1 : (W5.alloc (.cells #[.int .u64 (decG bs), .slice A5 (decL bs).length c5] 40)).cell? ⟨W5.heap.size, 1, none⟩ = some (.slice A5 (decL bs).length c5) := cell_of_row _ _ 1 _ _ _ hx5
    by_cases hrec : recOk bs
    · have hz := decE_yes hrec
      have hrd := rdec_of_rec h'.2.1 hrec
      have hok5 : okRoot (decG bs) (decL bs) := by rw [decG_yes hrec, decL_yes hrec]; exact hrd.ok
      have hle := decL_le bs
      have hsm : bs = encR (decG bs) (decL bs) := by rw [decG_yes hrec, decL_yes hrec]; exact hrd.same
      obtain ⟨B5, d5, he5, hl5, hs5⟩ := hr5.snaps
      cases he5
      rw [hz]
      have hE := encode_yes (decG bs) A5 c5 (decL bs) _ hs5 hl5 (by omega) hok5
      rw [← hsm] at hE
      generalize decG bs = g5 at *
      generalize decL bs = l5 at *
      have Hsm := Lib.hid hsm
      clear hsm ho5 hr5 hs5 hx5 hz hrec hrd
      go_wp2_with fail
      refine hE.mono ?_
      rintro e W6 ⟨⟨A6, c6, rfl, ho6⟩, hb6⟩
      have hbE := hbD.trans (hb6.mono hbD.size)
      have hsame := same_any A' A6 n' 64 c' c6 bs bs w.heap.size W6.heap.size W6 (h'.below hbE) (ho6.at_ h'.2.1)
      rw [decide_eq_true rfl] at hsame
      clear ho6 u0 u1
      go_wp2_with fail
      refine hsame.mono ?_
      rintro e W7 ⟨rfl, rfl⟩
      go_wp2_with fail
      go_ret
      exact ⟨rfl, hbE⟩
    · rw [decE_no hrec]
      generalize decG bs = g5 at *
      generalize decL bs = l5 at *
      clear ho5 hr5 hx5 hrec
      go_wp2_with fail
      go_ret
      exact ⟨rfl, hbD⟩
  · go_wp2_with fail
    refine (encode_no g A c l w1 (h.below hbA) hc (by omega) hok).mono ?_
    rintro e WN ⟨rfl, hb2⟩
    have hbB := hbA.trans (hb2.mono hbA.size)
    clear q0 q1 hr1 hb2
    go_wp2_with fail
    refine (decode_is A' n' c' bs WN ((h'.below hbB).more hbB.size) hnc' (by omega)).mono ?_
    rintro e W5 ⟨hb5, v5, rfl, A5, c5, rfl, ho5⟩
    have hbC := hbB.trans (hb5.mono hbB.size)
    have hx5 : (W5.alloc (.cells #[.int .u64 (decG bs), .slice A5 (decL bs).length c5] 40)).heap[W5.heap.size]? = some (.cells #[.int .u64 (decG bs), .slice A5 (decL bs).length c5] 40 (0, 0)) := heap_alloc_new _ _
    have hbD : Below w.heap.size w (W5.alloc (.cells #[.int .u64 (decG bs), .slice A5 (decL bs).length c5] 40)) := hbC.alloc hbC.size _
    have hr5 : RootIs (W5.alloc (.cells #[.int .u64 (decG bs), .slice A5 (decL bs).length c5] 40)) WN.heap.size (.agg #[.int .u64 (decG bs), .slice A5 (decL bs).length c5]) (decG bs) (decL bs) := RootIs.below ⟨A5, c5, rfl, ho5⟩ ((Below.refl _ _).alloc (Nat.le_refl _) _)
    have u0 : (W5.alloc (.cells #[.int .u64 (decG bs), .slice A5 (decL bs).length c5] 40)).cell? ⟨W5.heap.size, 0, none⟩ = some (.int .u64 (decG bs)) := cell_of_row _ _ 0 _ _ _ hx5
    have u1 : (W5.alloc (.cells #[.int .u64 (decG bs), .slice A5 (decL bs).length c5] 40)).cell? ⟨W5.heap.size, 1, none⟩ = some (.slice A5 (decL bs).length c5) := cell_of_row _ _ 1 _ _ _ hx5
    by_cases hrec : recOk bs
    · have hz := decE_yes hrec
      have hrd := rdec_of_rec h'.2.1 hrec
      have hok5 : okRoot (decG bs) (decL bs) := by rw [decG_yes hrec, decL_yes hrec]; exact hrd.ok
      have hle := decL_le bs
      have hsm : bs = encR (decG bs) (decL bs) := by rw [decG_yes hrec, decL_yes hrec]; exact hrd.same
      obtain ⟨B5, d5, he5, hl5, hs5⟩ := hr5.snaps
      cases he5
      rw [hz]
      have hE := encode_yes (decG bs) A5 c5 (decL bs) _ hs5 hl5 (by omega) hok5
      rw [← hsm] at hE
      generalize decG bs = g5 at *
      generalize decL bs = l5 at *
      have Hsm := Lib.hid hsm
      clear hsm ho5 hr5 hs5 hx5 hz hrec hrd
      go_wp2_with fail
      refine hE.mono ?_
      rintro e W6 ⟨⟨A6, c6, rfl, ho6⟩, hb6⟩
      have hbE := hbD.trans (hb6.mono hbD.size)
      have hsame := same_any A' A6 n' 64 c' c6 bs bs w.heap.size W6.heap.size W6 (h'.below hbE) (ho6.at_ h'.2.1)
      rw [decide_eq_true rfl] at hsame
      clear ho6 u0 u1
      go_wp2_with fail
      refine hsame.mono ?_
      rintro e W7 ⟨rfl, rfl⟩
      go_wp2_with fail
      go_ret
      exact ⟨rfl, hbE⟩
    · rw [decE_no hrec]
      generalize decG bs = g5 at *
      generalize decL bs = l5 at *
      clear ho5 hr5 hx5 hrec
      go_wp2_with fail
      go_ret
      exact ⟨rfl, hbD⟩
theorem back_long (w : World) (g : Int) (A : Option Addr) (c : Nat) (l : List S63) (A' : Option Addr) (n' c' : Nat) (hn : ¬ (l.length ≤ 100 ∧ n' ≤ 1000)) :
    Calls Try.prog 12 #[.agg #[.int .u64 g, .slice A l.length c], .slice A' n' c'] w fun e w' => e = .returned (.bool true) ∧ Below w.heap.size w w' := by
  have hb0 : Below w.heap.size w (w.alloc (.cells #[.int .u64 g, .slice A l.length c] 40)) := (Below.refl _ _).alloc (Nat.le_refl _) _
  have hr0 : (w.alloc (.cells #[.int .u64 g, .slice A l.length c] 40)).heap[w.heap.size]? = some (.cells #[.int .u64 g, .slice A l.length c] 40 (0, 0)) := heap_alloc_new _ _
  go_enter Try.func12, Try.ntmps12
  go_wp2_with fail
  refine (rootAwake_any _).mono ?_
  rintro e w1 ⟨rfl, hb1⟩
  have hr1 := blk_below hr0 hb1 (blk_lt hr0)
  have hbA := hb0.trans (hb1.mono hb0.size)
  have q0 : w1.cell? ⟨w.heap.size, 0, none⟩ = some (.int .u64 g) := cell_of_row _ _ 0 _ _ _ hr1
  have q1 : w1.cell? ⟨w.heap.size, 1, none⟩ = some (.slice A l.length c) := cell_of_row _ _ 1 _ _ _ hr1
  clear hb0 hr0 hb1
  by_cases h1 : l.length ≤ 100
  · have h2 : ¬ n' ≤ 1000 := fun h => hn ⟨h1, h⟩
    have hd1 : decide ((100 : Int) < (l.length : Int)) = false := decide_eq_false (by omega)
    have hd2 : decide ((1000 : Int) < (n' : Int)) = true := decide_eq_true (by omega)
    have hd3 : decide (100 < l.length) = false := decide_eq_false (by omega)
    have hd4 : decide (1000 < n') = true := decide_eq_true (by omega)
    go_wp2_with fail
    go_ret
    exact ⟨rfl, hbA⟩
  · have hd1 : decide ((100 : Int) < (l.length : Int)) = true := decide_eq_true (by omega)
    have hd3 : decide (100 < l.length) = true := decide_eq_true (by omega)
    go_wp2_with fail
    go_ret
    exact ⟨rfl, hbA⟩
end Go.Proofs.Ytghpnhiliihlaaa.Root
namespace Go.Proofs.Ytghpnhiliihlaaa
open Go.RowKit
theorem rootBack_walk (W : World) {H : Type} {enc : TypeId × Value → H} {base : Nat} {d : DataW H} {p : List MemPlace} (v : Value) (hok : Value.okWide Try.prog W .any base 40 v) (ht : DataW.Trod enc Try.prog W 0 (fun _ => true) true 40 v d p)
    (a' : Option Addr) (len' cap' : Nat) (bs' : List Int) (h' : BytesAt W W.heap.size a' len' bs') (hlc' : len' ≤ cap') (hc' : cap' ≤ 140737488351232) :
    Calls Try.prog 12 #[v, .slice a' len' cap'] W fun e W' => e = .returned (.bool true) ∧ Below W.heap.size W W' := by
  obtain ⟨g, A, c, l, rfl, h, hc, hw⟩ := Root.root_open hok ht
  by_cases hn : l.length ≤ 100 ∧ len' ≤ 1000
  · exact Root.back_walk W g A c l h hc hw a' len' cap' bs' h' hlc' hn.1 hn.2
  · exact Root.back_long W g A c l a' len' cap' hn
end Go.Proofs.Ytghpnhiliihlaaa
