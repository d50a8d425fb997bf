/-
  root: Decode.
-/
import Derived.Test.YtghpnhiliihlaaaRootD
namespace Go.Proofs.Ytghpnhiliihlaaa.Root
open Go.RowKit Go.Shelf Go.Proofs.Ytghpnhiliihlaaa
open Go.Proofs.YtghpnhiliihlaaaW.PrintWords (Kd)
attribute [local go_sem] Oper.semAt_some
set_option linter.unusedVariables false
set_option linter.unusedSimpArgs false

theorem catch_panicking (g : Nat) (pg : Int) (pv : Value) (x : Int) (w : World) (hr : w.heap[g]? = some (.cells #[.int .u64 pg, pv] 40 (0, 0))) (he : w.heap[g + 1]? = some (.cells #[.int .i64 x] 41 (0, 0))) :
    CallsD Try.prog 45 #[.pointer (some ⟨g, 0, none⟩), .pointer (some ⟨g + 1, 0, none⟩)] (.panicking [{ v := .iface 66 (.agg #[]), recovered := false }]) w fun e u' w' =>
      e = .returned (.tuple #[]) ∧ u' = .panicking [{ v := .iface 66 (.agg #[]), recovered := true }] ∧
      w'.heap[g]? = some (.cells #[.int .u64 0, .slice none 0 0] 40 (0, 0)) ∧ w'.heap[g + 1]? = some (.cells #[.int .i64 30] 41 (0, 0)) ∧ Below g w w' := by
  refine callsD_of_wpS Try.func45 rfl fun c₀ cs hu => ?_
  apply wpS_seq
  apply wpS_region
  simp [wpOpsS, go_sem, recoverD, hu, Try.ntmps45, Exit.thenS]
  refine wpS_of_wp ?_
  have hr1 : (w.alloc (.cells #[] 66)).heap[g]? = some (.cells #[.int .u64 pg, pv] 40 (0, 0)) := blk_alloc hr _
  have he1 : (w.alloc (.cells #[] 66)).heap[g + 1]? = some (.cells #[.int .i64 x] 41 (0, 0)) := blk_alloc he _
  have hc0 : (w.alloc (.cells #[] 66)).cell? ⟨g, 0, none⟩ = some (.int .u64 pg) := cell_of_row _ _ 0 _ _ _ hr1
  have hc1 : (w.alloc (.cells #[] 66)).cell? ⟨g, 1, none⟩ = some pv := cell_of_row _ _ 1 _ _ _ hr1
  have hc2 := cell_one he1
  have hf0 := frozen_blk hr1 0
  have hf1 := frozen_blk hr1 1
  have hf2 := frozen_blk he1 0
  simp only [List.size_toArray, List.length_cons, List.length_nil, Nat.reduceAdd, Nat.reduceSub, Array.replicate_succ, Array.replicate_zero, List.push_toArray, List.append_toArray, List.nil_append, List.cons_append, List.setIfInBounds_toArray, List.set_cons_succ, List.set_cons_zero]
  have hta : ∀ w : World, (Instr.typeAssert (.iface 66 (.agg #[])) 20 66 true).run Try.prog w = .ok (.tuple #[.agg #[], .bool true]) w := fun w => by kernel_rfl
  go_wp2
  have hne : g ≠ g + 1 := by omega
  generalize hW : (((w.alloc (.cells #[] 66)).setCell ⟨g, 0, none⟩ (.int .u64 0)).setCell ⟨g, 1, none⟩ (.slice none 0 0)).setCell ⟨g + 1, 0, none⟩ (.int .i64 30) = W
  have h1 : W.heap[g]? = some (.cells #[.int .u64 0, .slice none 0 0] 40 (0, 0)) := by
    rw [← hW]
    exact (heap_set2 _ _ _ _ _ hne).trans (heap_setCell_same _ _ 1 _ 40 _ (heap_setCell_same _ _ 0 _ 40 _ hr1))
  have h2 : W.heap[g + 1]? = some (.cells #[.int .i64 30] 41 (0, 0)) := by
    rw [← hW]
    exact heap_setCell_same _ _ 0 _ 41 _ ((heap_set2 _ _ _ _ _ hne.symm).trans ((heap_set2 _ _ _ _ _ hne.symm).trans he1))
  have h3 : Below g w W := by
    rw [← hW]
    exact ((((Below.refl _ _).alloc (Nat.le_of_lt (blk_lt hr)) _).setCell (by simp) _).setCell (by simp) _).setCell (by simp) _
  clear hW hc0 hc1 hc2 hf0 hf1 hf2 hta hr1 he1 hr he
  simp [bodyPostS, results, Try.results45, h1, h2, h3]
theorem catch_idle (g : Nat) (w : World) :
    CallsD Try.prog 45 #[.pointer (some ⟨g, 0, none⟩), .pointer (some ⟨g + 1, 0, none⟩)] .returning w fun e u' w' =>
      e = .returned (.tuple #[]) ∧ u' = .returning ∧ w = w' := by
  refine callsD_of_wpS Try.func45 rfl fun c₀ cs hu => ?_
  apply wpS_seq
  apply wpS_region
  simp [wpOpsS, go_sem, recoverD, hu, Try.ntmps45, Exit.thenS]
  refine wpS_of_wp ?_
  simp only [List.size_toArray, List.length_cons, List.length_nil, Nat.reduceAdd, Nat.reduceSub, Array.replicate_succ, Array.replicate_zero, List.push_toArray, List.append_toArray, List.nil_append, List.cons_append, List.setIfInBounds_toArray, List.set_cons_succ, List.set_cons_zero]
  go_wp2
  cases c₀
  simp_all [bodyPostS, results, Try.results45]
/-- What Decode hands back. -/
def DecPost (bs : List Int) (base : Nat) (e : Ending) (w' : World) : Prop :=
  (recOk bs ∧ ∃ A' c', e = .returned (.tuple #[.agg #[.int .u64 (genOf bs), .slice A' (manyOf bs) c'], .int .i64 0]) ∧ OwnSnaps w' base (.slice A' (manyOf bs) c') (snapsOf bs (manyOf bs))) ∨
  (¬ recOk bs ∧ e = .returned (.tuple #[.agg #[.int .u64 0, .slice none 0 0], .int .i64 30]))
set_option maxHeartbeats 1000000 in
theorem decode_any (A : Option Addr) (n c : Nat) (bs : List Int) (w : World) (hbs : BytesAt w w.heap.size A n bs) (hnc : n ≤ c) (hn : n ≤ 140737488351232) :
    Calls Try.prog 32 #[.slice A n c] w fun e w' => Below w.heap.size w w' ∧ DecPost bs w.heap.size e w' := by
  have hmf : ∀ (fn : Fn) (first cap : Array Value) (w : World), (Instr.makeFunc fn first cap).run Try.prog w = .ok (.func fn first cap) w := fun _ _ _ _ => rfl
  go_enter_defers Try.func32, Try.ntmps32
  go_wp2_with fail
  have hb0 : Below w.heap.size w ((w.alloc (.cells #[.int .u64 0, .slice none 0 0] 40)).alloc (.cells #[.int .i64 0] 41)) := ((Below.refl _ _).alloc (Nat.le_refl _) _).alloc (by simp) _
  have hr0 : ((w.alloc (.cells #[.int .u64 0, .slice none 0 0] 40)).alloc (.cells #[.int .i64 0] 41)).heap[w.heap.size]? = some (.cells #[.int .u64 0, .slice none 0 0] 40 (0, 0)) := blk_alloc (heap_alloc_new _ _) _
  have he0 : ((w.alloc (.cells #[.int .u64 0, .slice none 0 0] 40)).alloc (.cells #[.int .i64 0] 41)).heap[w.heap.size + 1]? = some (.cells #[.int .i64 0] 41 (0, 0)) := blk_new _ _ (by simp)
  generalize (w.alloc (.cells #[.int .u64 0, .slice none 0 0] 40)).alloc (.cells #[.int .i64 0] 41) = W1 at hb0 hr0 he0 ⊢
  refine (record_any A n c bs W1 ((hbs.below hb0).more hb0.size) hnc hn).mono ?_
  rintro e W2 ⟨hb, ⟨hok, A', c', rfl, hsn⟩ | ⟨hno, rfl⟩⟩
  · have hr2 := blk_below hr0 hb (blk_lt hr0)
    have he2 := blk_below he0 hb (blk_lt he0)
    have hc0 : W2.cell? ⟨w.heap.size, 0, none⟩ = some (.int .u64 0) := cell_of_row _ _ 0 _ _ _ hr2
    have hc1 : W2.cell? ⟨w.heap.size, 1, none⟩ = some (.slice none 0 0) := cell_of_row _ _ 1 _ _ _ hr2
    have hc2 := cell_one he2
    have hf0 := frozen_blk hr2 0
    have hf1 := frozen_blk hr2 1
    have hf2 := frozen_blk he2 0
    go_wp2_with fail
    generalize hM : manyOf bs = M at *
    have hne : w.heap.size ≠ w.heap.size + 1 := by omega
    generalize hW : ((W2.setCell ⟨w.heap.size, 0, none⟩ (.int .u64 (genOf bs))).setCell ⟨w.heap.size, 1, none⟩ (.slice A' M c')).setCell ⟨w.heap.size + 1, 0, none⟩ (.int .i64 0) = W
    have h1 : W.heap[w.heap.size]? = some (.cells #[.int .u64 (genOf bs), .slice A' M c'] 40 (0, 0)) := by
      rw [← hW]
      exact (heap_set2 _ _ _ _ _ hne).trans (heap_setCell_same _ _ 1 _ 40 _ (heap_setCell_same _ _ 0 _ 40 _ hr2))
    have h2 : W.heap[w.heap.size + 1]? = some (.cells #[.int .i64 0] 41 (0, 0)) := by
      rw [← hW]
      exact heap_setCell_same _ _ 0 _ 41 _ ((heap_set2 _ _ _ _ _ hne.symm).trans ((heap_set2 _ _ _ _ _ hne.symm).trans he2))
    have h3 : Below w.heap.size w W := by
      rw [← hW]
      exact (((hb0.trans (hb.mono hb0.size)).setCell (by simp) _).setCell (by simp) _).setCell (by simp) _
    have h4 : OwnSnaps W w.heap.size (.slice A' M c') (snapsOf bs M) := by
      rw [← hW]
      refine Kd.R_lower (base := W1.heap.size) (OwnSnaps.step hsn fun q hq hc => ?_) hb0.size
      have n1 : q ≠ w.heap.size := fun e => by
        obtain ⟨cells, hc⟩ := hc
        rw [e, hr2] at hc
        injection hc with hc
        injection hc with _ e2 _
        revert e2; decide
      have n2 : q ≠ w.heap.size + 1 := fun e => by
        obtain ⟨cells, hc⟩ := hc
        rw [e, he2] at hc
        injection hc with hc
        injection hc with _ e2 _
        revert e2; decide
      exact (heap_set2 _ _ _ _ _ n2).trans ((heap_set2 _ _ _ _ _ n1).trans (heap_set2 _ _ _ _ _ n1))
    clear hW hc0 hc1 hc2 hf0 hf1 hf2 hr2 he2 hb hr0 he0 hsn
    refine leaves_cons (f := 45) (args := #[.pointer (some ⟨w.heap.size, 0, none⟩), .pointer (some ⟨w.heap.size + 1, 0, none⟩)]) (by simp) (by simp [go_sem]) ?_
    refine (catch_idle w.heap.size W).mono ?_
    rintro e u' w'' ⟨rfl, rfl, rfl⟩
    have hc0 : W.cell? ⟨w.heap.size, 0, none⟩ = some (.int .u64 (genOf bs)) := cell_of_row _ _ 0 _ _ _ h1
    have hc1 : W.cell? ⟨w.heap.size, 1, none⟩ = some (.slice A' M c') := cell_of_row _ _ 1 _ _ _ h1
    have hc2 := cell_one h2
    have hfin : DecPost bs w.heap.size (.returned (.tuple #[.agg #[.int .u64 (genOf bs), .slice A' M c'], .int .i64 0])) W := .inl ⟨hok, A', c', by rw [hM], by rw [hM]; exact h4⟩
    clear h1 h2 h4
    simp [Leaves, settle, results, Try.results32, go_sem, hc0, hc1, hc2, h3, hfin]
  · have hr2 := blk_below hr0 hb (blk_lt hr0)
    have he2 := blk_below he0 hb (blk_lt he0)
    go_wp2_with fail
    refine leaves_cons (f := 45) (args := #[.pointer (some ⟨w.heap.size, 0, none⟩), .pointer (some ⟨w.heap.size + 1, 0, none⟩)]) (by simp) (by simp [go_sem]) ?_
    refine (catch_panicking w.heap.size 0 _ 0 W2 hr2 he2).mono ?_
    rintro e u' w'' ⟨rfl, rfl, h1, h2, h3⟩
    have hc0 : w''.cell? ⟨w.heap.size, 0, none⟩ = some (.int .u64 0) := cell_of_row _ _ 0 _ _ _ h1
    have hc1 : w''.cell? ⟨w.heap.size, 1, none⟩ = some (.slice none 0 0) := cell_of_row _ _ 1 _ _ _ h1
    have hc2 := cell_one h2
    have h4 : Below w.heap.size w w'' := (hb0.trans (hb.mono hb0.size)).trans h3
    have hfin : DecPost bs w.heap.size (.returned (.tuple #[.agg #[.int .u64 0, .slice none 0 0], .int .i64 30])) w'' := .inr ⟨hno, rfl⟩
    clear h1 h2 h3 hr2 he2 hr0 he0
    simp [Leaves, settle, results, Try.results32, go_sem, hc0, hc1, hc2, h4, hfin]
end Go.Proofs.Ytghpnhiliihlaaa.Root
