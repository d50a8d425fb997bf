/-
  RootWrites: the argument opened; the law's walk.
-/
import Derived.Test.YtghpnhiliihlaaaRootJ
import Derived.Deep.SlicePairs
import Derived.Lib.SmallJoins
import Derived.ProofKit
namespace Go.Proofs.Ytghpnhiliihlaaa.Root
open Go.RowKit Go.Shelf Go.Proofs.Ytghpnhiliihlaaa
open Go.Proofs.YtghpnhiliihlaaaW.PrintWords (Kd)
attribute [local go_sem] Oper.semAt_some
set_option linter.unusedVariables false
set_option linter.unusedSimpArgs false

theorem tab_get {α : Type} (f : Nat → α) (n i : Nat) (z : α) (hi : i < n) : ((List.range n).map f).getD i z = f i := by
  rw [List.getD_eq_getElem?_getD, List.getElem?_map, List.getElem?_range hi]; rfl
/-- A root that came in. -/
theorem root_open {H : Type} {enc : TypeId × Value → H} {W : World} {base : Nat} {v : Value} {d : DataW H} {p : List MemPlace} (hok : Value.okWide Try.prog W .any base 40 v) (ht : DataW.Trod enc Try.prog W 0 (fun _ => true) true 40 v d p) :
    ∃ g A c l, v = .agg #[.int .u64 g, .slice A l.length c] ∧ SnapsAt W A l ∧ l.length ≤ c ∧ rootWf g l := by
  obtain ⟨v0, v1, y0, y1, n, rfl, rfl, rfl, h0, h1⟩ := Go.Joins.open_agg2 Try.underlying40 (by kernel_rfl) (by kernel_rfl) hok ht
  obtain ⟨g, hg, _, hgw⟩ := DataW.trod_int Try.underlying31 h0
  have hg : v0 = .int .u64 g := by simpa using hg
  subst hg
  have hgr : 0 ≤ g ∧ g < 18446744073709551616 := by
    simp only [Lit.wf, Bool.and_eq_true, decide_eq_true_eq] at hgw
    have e1 : IntKind.u64.min = 0 := rfl
    have e2 : IntKind.u64.max = 18446744073709551615 := rfl
    omega
  rcases Go.Deep.open_slice_pairs Try.underlying38 Try.underlying63 (by kernel_rfl) rfl rfl (by kernel_rfl) (by kernel_rfl) h1 with ⟨hcs, _⟩ | ⟨a, len, cap, m, q, V0, V1, D0, D1, P0, P1, hcs, _, hlc, hm, hmm, _, hx⟩
  · have hcs : v1 = .slice none 0 0 := by simpa using hcs
    subst hcs
    exact ⟨g, none, 0, [], rfl, ⟨rfl, by decide, fun h => absurd h (Nat.lt_irrefl 0)⟩, Nat.le_refl _, hgr.1, hgr.2, fun j hj => absurd hj (Nat.not_lt_zero j)⟩
  · have hcs : v1 = .slice (some a) len cap := by simpa using hcs
    subst hcs
    simp only [if_true] at hmm
    have hmm := hmm.symm
    subst hmm
    have hx0 : ∀ i, i < cap → ∃ z, V0 i = .int .u64 z ∧ 0 ≤ z ∧ z < 18446744073709551616 := fun i hi => by
      obtain ⟨_, _, h2, _⟩ := hx i hi
      obtain ⟨z, hz, _, hw⟩ := DataW.trod_int Try.underlying31 h2
      refine ⟨z, by simpa using hz, ?_⟩
      simp only [Lit.wf, Bool.and_eq_true, decide_eq_true_eq] at hw
      have e1 : IntKind.u64.min = 0 := rfl
      have e2 : IntKind.u64.max = 18446744073709551615 := rfl
      omega
    have hx1 : ∀ i, i < cap → ∃ z, V1 i = .int .i64 z := fun i hi => by
      obtain ⟨_, _, _, h3⟩ := hx i hi
      obtain ⟨z, hz, _, hw⟩ := DataW.trod_int Try.underlying3 h3
      exact ⟨z, by simpa using hz⟩
    let l : List S63 := (List.range len).map fun i => ⟨intOf (V0 i), intOf (V1 i)⟩
    have hl : l.length = len := by simp [l]
    have hget : ∀ i, i < len → l.getD i z63 = ⟨intOf (V0 i), intOf (V1 i)⟩ := fun i hi => tab_get _ len i z63 hi
    refine ⟨g, some a, cap, l, by rw [hl], ⟨rfl, by rw [hl]; have : maxLen = 9223372036854775807 := rfl; omega, fun _ => ⟨a, rfl, fun j pj hj => ?_⟩⟩, by rw [hl]; exact hlc, hgr.1, hgr.2, fun j hj => ?_⟩
    · have hjl : j < len := by
        rw [← hl]
        exact (List.getElem?_eq_some_iff.1 hj).1
      have hp := hget j hjl
      rw [List.getD_eq_getElem?_getD, hj, Option.getD_some] at hp
      subst hp
      obtain ⟨c0, c1, _, _⟩ := hx j (by omega)
      obtain ⟨z0, e0, _⟩ := hx0 j (by omega)
      obtain ⟨z1, e1⟩ := hx1 j (by omega)
      refine ⟨[.int .u64 z0, .int .i64 z1], rfl, ?_, fun i u hu => ?_⟩
      · rw [e0, e1]
        exact PRootReads.k63_mk _ _
      · rcases i with _ | _ | i
        · have : u = .int .u64 z0 := (Option.some.inj hu).symm
          subst this
          rw [← e0]
          exact c0
        · have : u = .int .i64 z1 := (Option.some.inj hu).symm
          subst this
          rw [← e1]
          exact c1
        · cases hu
    · rw [hget j (by omega)]
      obtain ⟨z0, e0, h2⟩ := hx0 j (by omega)
      rw [e0]
      exact h2
theorem nil_same (w : World) : Calls Try.prog 18 #[.slice none 0 0, .slice none 0 0] w fun e w' => e = .returned (.bool true) ∧ w = w' :=
  same_any none none 0 0 0 0 [] [] w.heap.size w.heap.size w (nil_bytes _ _) (nil_bytes _ _)
set_option maxRecDepth 100000 in
set_option maxHeartbeats 2000000 in
theorem writes_walk (w : World) (g : Int) (A : Option Addr) (c : Nat) (l : List S63) (h : SnapsAt w A l) (hc : l.length ≤ c) (hn : l.length ≤ 100) :
    Calls Try.prog 9 #[.agg #[.int .u64 g, .slice A l.length c]] w fun e w' => e = .returned (.bool true) ∧ Below w.heap.size w w' := by
  have hni : ¬ (100 : Int) < (l.length : Int) := by omega
  have hb0 : Below w.heap.size w (w.alloc (.cells #[.int .u64 g, .slice A l.length c] 40)) := (Below.refl _ _).alloc (Nat.le_refl _) _
  have hr0 : (w.alloc (.cells #[.int .u64 g, .slice A l.length c] 40)).heap[w.heap.size]? = some (.cells #[.int .u64 g, .slice A l.length c] 40 (0, 0)) := heap_alloc_new _ _
  go_enter Try.func9, Try.ntmps9
  go_wp2_with fail
  refine (rootAwake_any _).mono ?_
  rintro e w1 ⟨rfl, hb1⟩
  have hr1 := blk_below hr0 hb1 (blk_lt hr0)
  have hbA := hb0.trans (hb1.mono hb0.size)
  have q0 : w1.cell? ⟨w.heap.size, 0, none⟩ = some (.int .u64 g) := cell_of_row _ _ 0 _ _ _ hr1
  have q1 : w1.cell? ⟨w.heap.size, 1, none⟩ = some (.slice A l.length c) := cell_of_row _ _ 1 _ _ _ hr1
  clear hb0 hr0 hb1
  by_cases hok : okRoot g l
  · go_wp2_with fail
    refine (encode_yes g A c l w1 (h.below hbA) hc (by omega) hok).mono ?_
    rintro e W2 ⟨⟨A2, c2, rfl, ho2⟩, hb2⟩
    have hr2 := blk_below hr1 hb2 (blk_lt hr1)
    have hbB := hbA.trans (hb2.mono hbA.size)
    have q2 : W2.cell? ⟨w.heap.size, 0, none⟩ = some (.int .u64 g) := cell_of_row _ _ 0 _ _ _ hr2
    have q3 : W2.cell? ⟨w.heap.size, 1, none⟩ = some (.slice A l.length c) := cell_of_row _ _ 1 _ _ _ hr2
    have hB2 := ho2.at_ (encR_range g l)
    clear q0 q1 hr1 ho2
    go_wp2_with fail
    refine (rencode_yes g A c l W2 (h.below hbB) hc (by omega) hok).mono ?_
    rintro e W3 ⟨⟨A3, c3, rfl, ho3⟩, hb3⟩
    have hbC := hbB.trans (hb3.mono hbB.size)
    have hsame := same_any A2 A3 64 64 c2 c3 (encR g l) (encR g l) W2.heap.size W3.heap.size W3 (hB2.below hb3) (ho3.at_ (encR_range g l))
    rw [decide_eq_true rfl] at hsame
    clear q2 q3 hr2 ho3 hB2
    go_wp2_with fail
    refine hsame.mono ?_
    rintro e W4 ⟨rfl, rfl⟩
    go_wp2_with fail
    go_ret
    exact ⟨rfl, hbC⟩
  · go_wp2_with fail
    refine (encode_no g A c l w1 (h.below hbA) hc (by omega) hok).mono ?_
    rintro e W2 ⟨rfl, hb2⟩
    have hr2 := blk_below hr1 hb2 (blk_lt hr1)
    have hbB := hbA.trans (hb2.mono hbA.size)
    have q2 : W2.cell? ⟨w.heap.size, 0, none⟩ = some (.int .u64 g) := cell_of_row _ _ 0 _ _ _ hr2
    have q3 : W2.cell? ⟨w.heap.size, 1, none⟩ = some (.slice A l.length c) := cell_of_row _ _ 1 _ _ _ hr2
    clear q0 q1 hr1
    go_wp2_with fail
    refine (rencode_no g A c l W2 (h.below hbB) hc (by omega) hok).mono ?_
    rintro e W3 ⟨rfl, hb3⟩
    have hbC := hbB.trans (hb3.mono hbB.size)
    clear q2 q3 hr2
    go_wp2_with fail
    refine (nil_same W3).mono ?_
    rintro e W4 ⟨rfl, rfl⟩
    go_wp2_with fail
    go_ret
    exact ⟨rfl, hbC⟩
theorem writes_long (w : World) (g : Int) (A : Option Addr) (c : Nat) (l : List S63) (hn : ¬ l.length ≤ 100) :
    Calls Try.prog 9 #[.agg #[.int .u64 g, .slice A l.length c]] w fun e w' => e = .returned (.bool true) ∧ Below w.heap.size w w' := by
  have hni : (100 : Int) < (l.length : Int) := by omega
  have hb0 : Below w.heap.size w (w.alloc (.cells #[.int .u64 g, .slice A l.length c] 40)) := (Below.refl _ _).alloc (Nat.le_refl _) _
  have hr0 : (w.alloc (.cells #[.int .u64 g, .slice A l.length c] 40)).heap[w.heap.size]? = some (.cells #[.int .u64 g, .slice A l.length c] 40 (0, 0)) := heap_alloc_new _ _
  go_enter Try.func9, Try.ntmps9
  go_wp2_with fail
  refine (rootAwake_any _).mono ?_
  rintro e w1 ⟨rfl, hb1⟩
  have hr1 := blk_below hr0 hb1 (blk_lt hr0)
  have hbA := hb0.trans (hb1.mono hb0.size)
  have q0 : w1.cell? ⟨w.heap.size, 0, none⟩ = some (.int .u64 g) := cell_of_row _ _ 0 _ _ _ hr1
  have q1 : w1.cell? ⟨w.heap.size, 1, none⟩ = some (.slice A l.length c) := cell_of_row _ _ 1 _ _ _ hr1
  clear hb0 hr0 hb1
  go_wp2_with fail
  go_ret
  exact ⟨rfl, hbA⟩
end Go.Proofs.Ytghpnhiliihlaaa.Root
namespace Go.Proofs.Ytghpnhiliihlaaa
open Go.RowKit
theorem rootWrites_walk (W : World) {H : Type} {enc : TypeId × Value → H} {base : Nat} {d : DataW H} {p : List MemPlace} (v : Value) (hok : Value.okWide Try.prog W .any base 40 v) (ht : DataW.Trod enc Try.prog W 0 (fun _ => true) true 40 v d p) :
    Calls Try.prog 9 #[v] W fun e W' => e = .returned (.bool true) ∧ Below W.heap.size W W' := by
  obtain ⟨g, A, c, l, rfl, h, hc, _⟩ := Root.root_open hok ht
  by_cases hn : l.length ≤ 100
  · exact Root.writes_walk W g A c l h hc hn
  · exact Root.writes_long W g A c l hn
end Go.Proofs.Ytghpnhiliihlaaa
