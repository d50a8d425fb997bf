/-
  RootReads, RootChooses: the laws' walks.
-/
import Derived.Test.YtghpnhiliihlaaaRootJ
namespace Go.Proofs.Ytghpnhiliihlaaa.Root
open Go.RowKit Go.Shelf Go.Proofs.Ytghpnhiliihlaaa
open Go.Proofs.YtghpnhiliihlaaaW.PrintWords (Kd)
attribute [local go_sem] Oper.semAt_some
set_option linter.unusedVariables false
set_option linter.unusedSimpArgs false

set_option maxRecDepth 100000 in
set_option maxHeartbeats 2000000 in
theorem reads_walk (w : World) (A : Option Addr) (n c : Nat) (bs : List Int) (h : BytesAt w w.heap.size A n bs) (hnc : n ≤ c) (hn : n ≤ 1000) :
    Calls Try.prog 10 #[.slice A n c] w fun e w' => e = .returned (.bool true) ∧ Below w.heap.size w w' := by
  have hni : ¬ (1000 : Int) < (n : Int) := by omega
  go_enter Try.func10, Try.ntmps10
  go_wp2_with fail
  refine (rootAwake_any w).mono ?_
  rintro e w1 ⟨rfl, hb1⟩
  go_wp2_with fail
  refine (decode_is A n c bs w1 ((h.below hb1).more hb1.size) hnc (by omega)).mono ?_
  rintro e W2 ⟨hb2, v2, rfl, A2, c2, rfl, ho2⟩
  have hle := decL_le bs
  go_wp2_with fail
  have hx2 : (W2.alloc (.cells #[.int .u64 (decG bs), .slice A2 (decL bs).length c2] 40)).heap[W2.heap.size]? = some (.cells #[.int .u64 (decG bs), .slice A2 (decL bs).length c2] 40 (0, 0)) := heap_alloc_new _ _
  have hr2 : RootIs (W2.alloc (.cells #[.int .u64 (decG bs), .slice A2 (decL bs).length c2] 40)) w1.heap.size (.agg #[.int .u64 (decG bs), .slice A2 (decL bs).length c2]) (decG bs) (decL bs) := RootIs.below ⟨A2, c2, rfl, ho2⟩ ((Below.refl _ _).alloc (Nat.le_refl _) _)
  have hb3 : Below w.heap.size w (W2.alloc (.cells #[.int .u64 (decG bs), .slice A2 (decL bs).length c2] 40)) := (hb1.trans (hb2.mono hb1.size)).alloc (Nat.le_trans hb1.size hb2.size) _
  generalize W2.alloc (.cells #[.int .u64 (decG bs), .slice A2 (decL bs).length c2] 40) = W3 at hx2 hb3 hr2 ⊢
  generalize W2.heap.size = g2 at hx2 ⊢
  refine (rdecode_is A n c bs W3 ((h.below hb3).more hb3.size) hnc (by omega)).mono ?_
  rintro e W4 ⟨hb4, v4, rfl, A4, c4, rfl, ho4⟩
  have hx4 := blk_below hx2 hb4 (blk_lt hx2)
  have hr4 := hr2.below hb4
  have hr4' : RootIs W4 W3.heap.size (.agg #[.int .u64 (decG bs), .slice A4 (decL bs).length c4]) (decG bs) (decL bs) := ⟨A4, c4, rfl, ho4⟩
  generalize decG bs = g at *
  generalize decL bs = l at *
  generalize decE bs = er at *
  have hb5 : Below w.heap.size w (W4.alloc (.cells #[.int .u64 g, .slice A4 l.length c4] 40)) := (hb3.trans (hb4.mono hb3.size)).alloc (Nat.le_trans hb3.size hb4.size) _
  have hx5 : (W4.alloc (.cells #[.int .u64 g, .slice A4 l.length c4] 40)).heap[g2]? = some (.cells #[.int .u64 g, .slice A2 l.length c2] 40 (0, 0)) := blk_alloc hx4 _
  have hr5 := hr4.below ((Below.refl _ _).alloc (Nat.le_refl _) (.cells #[.int .u64 g, .slice A4 l.length c4] 40))
  have hr5' := hr4'.below ((Below.refl _ _).alloc (Nat.le_refl _) (.cells #[.int .u64 g, .slice A4 l.length c4] 40))
  obtain ⟨B1, d1, he1, hl1, hs1⟩ := hr5.snaps
  obtain ⟨B2, d2, he2, hl2, hs2⟩ := hr5'.snaps
  cases he1
  cases he2
  have hsame := same03_any g g A2 A4 c2 c4 l l _ hs1 hl1 hs2 hl2 (by omega)
  rw [decide_eq_true ⟨rfl, rfl⟩] at hsame
  have q0 : (W4.alloc (.cells #[.int .u64 g, .slice A4 l.length c4] 40)).cell? ⟨g2, 0, none⟩ = some (.int .u64 g) := cell_of_row _ _ 0 _ _ _ hx5
  have q1 : (W4.alloc (.cells #[.int .u64 g, .slice A4 l.length c4] 40)).cell? ⟨g2, 1, none⟩ = some (.slice A2 l.length c2) := cell_of_row _ _ 1 _ _ _ hx5
  clear hx2 hx4 hx5 hr2 hr4 hr4' hr5 hr5' hs1 hs2 ho2 ho4 hb1 hb2 hb3 hb4
  go_wp2_with fail
  refine hsame.mono ?_
  rintro e W6 ⟨rfl, hb6⟩
  have hbw := hb5.trans (hb6.mono hb5.size)
  go_wp2_with fail
  go_ret
  exact ⟨rfl, hbw⟩
theorem reads_long (w : World) (A : Option Addr) (n c : Nat) (hn : ¬ n ≤ 1000) :
    Calls Try.prog 10 #[.slice A n c] w fun e w' => e = .returned (.bool true) ∧ Below w.heap.size w w' := by
  have hni : (1000 : Int) < (n : Int) := by omega
  go_enter Try.func10, Try.ntmps10
  go_wp2_with fail
  refine (rootAwake_any w).mono ?_
  rintro e w1 ⟨rfl, hb1⟩
  go_wp2_with fail
  go_ret
  exact ⟨rfl, hb1⟩
theorem chL_le (a b : List Int) : (chL a b).length ≤ 4 := by
  by_cases h : takeB a b
  · rw [(ch_yes h).2.1]; exact decL_le b
  · rw [(ch_no h).2.1]; exact decL_le a
set_option maxRecDepth 100000 in
set_option maxHeartbeats 2000000 in
theorem chooses_walk (w : World) (A A' : Option Addr) (n c n' c' : Nat) (a b : List Int) (h : BytesAt w w.heap.size A n a) (hnc : n ≤ c) (h' : BytesAt w w.heap.size A' n' b) (hnc' : n' ≤ c') (hn : n + n' ≤ 1000) :
    Calls Try.prog 11 #[.slice A n c, .slice A' n' c'] w fun e w' => e = .returned (.bool true) ∧ Below w.heap.size w w' := by
  have hni : ¬ (1000 : Int) < (n : Int) + (n' : Int) := by omega
  have hws : wrap64 ((n : Int) + (n' : Int)) = (n : Int) + (n' : Int) := wrap64_of (by omega) (by omega)
  go_enter Try.func11, Try.ntmps11
  go_wp2_with fail
  refine (rootAwake_any w).mono ?_
  rintro e w1 ⟨rfl, hb1⟩
  go_wp2_with fail
  refine (choose_any A A' n c n' c' a b w1 ((h.below hb1).more hb1.size) hnc (by omega) ((h'.below hb1).more hb1.size) hnc' (by omega)).mono ?_
  rintro e W2 ⟨hb2, v2, rfl, A2, c2, rfl, ho2⟩
  have hle := chL_le a b
  go_wp2_with fail
  have hx2 : (W2.alloc (.cells #[.int .u64 (chG a b), .slice A2 (chL a b).length c2] 40)).heap[W2.heap.size]? = some (.cells #[.int .u64 (chG a b), .slice A2 (chL a b).length c2] 40 (0, 0)) := heap_alloc_new _ _
  have hr2 : RootIs (W2.alloc (.cells #[.int .u64 (chG a b), .slice A2 (chL a b).length c2] 40)) w1.heap.size (.agg #[.int .u64 (chG a b), .slice A2 (chL a b).length c2]) (chG a b) (chL a b) := RootIs.below ⟨A2, c2, rfl, ho2⟩ ((Below.refl _ _).alloc (Nat.le_refl _) _)
  have hb3 : Below w.heap.size w (W2.alloc (.cells #[.int .u64 (chG a b), .slice A2 (chL a b).length c2] 40)) := (hb1.trans (hb2.mono hb1.size)).alloc (Nat.le_trans hb1.size hb2.size) _
  generalize W2.alloc (.cells #[.int .u64 (chG a b), .slice A2 (chL a b).length c2] 40) = W3 at hx2 hb3 hr2 ⊢
  generalize W2.heap.size = g2 at hx2 ⊢
  refine (rchoose_any A A' n c n' c' a b W3 ((h.below hb3).more hb3.size) hnc (by omega) ((h'.below hb3).more hb3.size) hnc' (by omega)).mono ?_
  rintro e W4 ⟨hb4, v4, rfl, A4, c4, rfl, ho4⟩
  have hx4 := blk_below hx2 hb4 (blk_lt hx2)
  have hr4 := hr2.below hb4
  have hr4' : RootIs W4 W3.heap.size (.agg #[.int .u64 (chG a b), .slice A4 (chL a b).length c4]) (chG a b) (chL a b) := ⟨A4, c4, rfl, ho4⟩
  generalize chG a b = g at *
  generalize chL a b = l at *
  generalize chE a b = er at *
  generalize chW a b = cw at *
  have hb5 : Below w.heap.size w (W4.alloc (.cells #[.int .u64 g, .slice A4 l.length c4] 40)) := (hb3.trans (hb4.mono hb3.size)).alloc (Nat.le_trans hb3.size hb4.size) _
  have hx5 : (W4.alloc (.cells #[.int .u64 g, .slice A4 l.length c4] 40)).heap[g2]? = some (.cells #[.int .u64 g, .slice A2 l.length c2] 40 (0, 0)) := blk_alloc hx4 _
  have hr5 := hr4.below ((Below.refl _ _).alloc (Nat.le_refl _) (.cells #[.int .u64 g, .slice A4 l.length c4] 40))
  have hr5' := hr4'.below ((Below.refl _ _).alloc (Nat.le_refl _) (.cells #[.int .u64 g, .slice A4 l.length c4] 40))
  obtain ⟨B1, d1, he1, hl1, hs1⟩ := hr5.snaps
  obtain ⟨B2, d2, he2, hl2, hs2⟩ := hr5'.snaps
  cases he1
  cases he2
  have hsame := same03_any g g A2 A4 c2 c4 l l _ hs1 hl1 hs2 hl2 (by omega)
  rw [decide_eq_true ⟨rfl, rfl⟩] at hsame
  have q0 : (W4.alloc (.cells #[.int .u64 g, .slice A4 l.length c4] 40)).cell? ⟨g2, 0, none⟩ = some (.int .u64 g) := cell_of_row _ _ 0 _ _ _ hx5
  have q1 : (W4.alloc (.cells #[.int .u64 g, .slice A4 l.length c4] 40)).cell? ⟨g2, 1, none⟩ = some (.slice A2 l.length c2) := cell_of_row _ _ 1 _ _ _ hx5
  clear hx2 hx4 hx5 hr2 hr4 hr4' hr5 hr5' hs1 hs2 ho2 ho4 hb1 hb2 hb3 hb4
  go_wp2_with fail
  refine hsame.mono ?_
  rintro e W6 ⟨rfl, hb6⟩
  have hbw := hb5.trans (hb6.mono hb5.size)
  go_wp2_with fail
  go_ret
  exact ⟨rfl, hbw⟩
theorem chooses_long (w : World) (A A' : Option Addr) (n c n' c' : Nat) (hc : n ≤ 140737488351232) (hc' : n' ≤ 140737488351232) (hn : ¬ n + n' ≤ 1000) :
    Calls Try.prog 11 #[.slice A n c, .slice A' n' c'] w fun e w' => e = .returned (.bool true) ∧ Below w.heap.size w w' := by
  have hni : (1000 : Int) < (n : Int) + (n' : Int) := by omega
  have hws : wrap64 ((n : Int) + (n' : Int)) = (n : Int) + (n' : Int) := wrap64_of (by omega) (by omega)
  go_enter Try.func11, Try.ntmps11
  go_wp2_with fail
  refine (rootAwake_any w).mono ?_
  rintro e w1 ⟨rfl, hb1⟩
  go_wp2_with fail
  go_ret
  exact ⟨rfl, hb1⟩
end Go.Proofs.Ytghpnhiliihlaaa.Root
namespace Go.Proofs.Ytghpnhiliihlaaa
open Go.RowKit
theorem rootReads_walk (W : World) (a : Option Addr) (len cap : Nat) (bs : List Int) (h : BytesAt W W.heap.size a len bs) (hlc : len ≤ cap) (hc : cap ≤ 140737488351232) :
    Calls Try.prog 10 #[.slice a len cap] W fun e W' => e = .returned (.bool true) ∧ Below W.heap.size W W' := by
  by_cases hn : len ≤ 1000
  · exact Root.reads_walk W a len cap bs h hlc hn
  · exact Root.reads_long W a len cap hn
theorem rootChooses_walk (W : World) (a : Option Addr) (len cap : Nat) (bs : List Int) (h : BytesAt W W.heap.size a len bs) (hlc : len ≤ cap) (hc : cap ≤ 140737488351232)
    (a' : Option Addr) (len' cap' : Nat) (bs' : List Int) (h' : BytesAt W W.heap.size a' len' bs') (hlc' : len' ≤ cap') (hc' : cap' ≤ 140737488351232) :
    Calls Try.prog 11 #[.slice a len cap, .slice a' len' cap'] W fun e W' => e = .returned (.bool true) ∧ Below W.heap.size W W' := by
  by_cases hn : len + len' ≤ 1000
  · exact Root.chooses_walk W a a' len cap len' cap' bs bs' h hlc h' hlc' hn
  · exact Root.chooses_long W a a' len cap len' cap' (by omega) (by omega) hn
end Go.Proofs.Ytghpnhiliihlaaa
