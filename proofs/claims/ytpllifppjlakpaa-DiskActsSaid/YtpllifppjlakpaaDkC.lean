/-
  disk: sectors of 64 bytes; the look into the cache; Read.
-/
import Derived.Test.YtpllifppjlakpaaDkB
namespace Go.Proofs.Ytpllifppjlakpaa.Dk
open Go.RowKit Go.Shelf Go.Proofs.Ytpllifppjlakpaa
attribute [local go_sem] Oper.semAt_some
set_option linter.unusedVariables false
set_option linter.unusedSimpArgs false

theorem nots_sec : isSec (nots 64) := ⟨by simp [nots], nots_bytes 64⟩
theorem zero65 (W : World) : (zeroValue 65).run Try.prog W = .ok (.agg (ints .u8 (nots 64))) W := by kernel_rfl
theorem int_wf {k : Int} (h0 : -9223372036854775808 ≤ k) (h1 : k ≤ 9223372036854775807) : (Lit.int .i64 k).wf = true := by
  simp only [Lit.wf, Bool.and_eq_true, decide_eq_true_eq]
  exact ⟨h0, h1⟩
theorem encS_inj {x y : List Int} (h : encS x = encS y) : x = y := by
  unfold encS at h
  injection h with h
  induction x generalizing y with
  | nil => cases y with
    | nil => rfl
    | cons b y => cases h
  | cons a x ih => cases y with
    | nil => cases h
    | cons b y =>
      simp only [List.map_cons, List.cons.injEq] at h
      obtain ⟨h1, h2⟩ := h
      injection h1 with h1
      injection h1 with _ h1
      rw [h1, ih h2]
theorem encS_ne {x : List Int} {z : DataW Unit} (hz : z = .nil) : encS x ≠ z := by subst hz; intro h; cases h
theorem has_of {D : DataW Unit} {k : Lit} {o : Option (List Int)} (h : ∀ zd, D.atKey k zd = (o.map encS).getD zd) : Maps.has D k = o.isSome := by
  cases o with
  | none => exact Maps.has_false_of_atKey h
  | some x => exact Maps.has_true_of_atKey h
/-- 'm[k]', with ok. -/
theorem CacheAt.look {W : World} {g n : Nat} {C : Int → Option (List Int)} (h : CacheAt W g n C) (k : Int) (h0 : -9223372036854775808 ≤ k) (h1 : k ≤ 9223372036854775807) :
    (Instr.lookup 53 (.map (some g)) (.int .i64 k) true).run Try.prog W = .ok (.tuple #[.agg (ints .u8 ((C k).getD (nots 64))), .bool (C k).isSome]) W := by
  obtain ⟨D, ⟨es, clock, hb, F, hs, rfl⟩, hat⟩ := h
  have hC := hat k (int_wf h0 h1)
  rcases Maps.fit_look true key3 Try.underlying53 (zero65 W) hb F (Maps.keyOf_int_mk Try.underlying3 (int_wf h0 h1)) with ⟨hrun, _, h2⟩ | ⟨e0, y, _, _, hrun, hR, h2, _⟩
  · have hn : C k = none := by
      cases hc : C k with
      | none => rfl
      | some x =>
        have e1 := hC .nil
        rw [h2 .nil, hc] at e1
        cases e1
    rw [hrun, hn]
    rfl
  · obtain ⟨xs, e1, hx, rfl⟩ := Rsec_inv hR
    have hn : C k = some xs := by
      cases hc : C k with
      | none =>
        have e2 := hC .nil
        rw [h2 .nil, hc] at e2
        cases e2
      | some x =>
        have e2 := hC .nil
        rw [h2 .nil, hc] at e2
        rw [encS_inj e2]
    rw [hrun, hn, e1]
    rfl
theorem under65 : Try.prog.underlying 65 = some (.array 64 5) := by kernel_rfl
theorem size65 {n : Nat} (h : n = 64) : (Try.prog.info? 65).map (·.size) = some n := by subst h; kernel_rfl
theorem secOf_length {L : List Int} {n i : Nat} (hL : L.length = 64 * n) (hi : i < n) : (secOf L i).length = 64 := by
  unfold secOf
  rw [List.length_take, List.length_drop]
  omega
theorem secOf_bytes {L : List Int} (h : isBytes L) (i : Nat) : isBytes (secOf L i) := fun x hx => h x (List.mem_of_mem_drop (List.mem_of_mem_take hx))
theorem secOf_range {W : World} {g : Nat} {L : List Int} {t : TypeId} {fr : Nat × Nat} (hg : W.heap[g]? = some (.cells (ints .u8 L) t fr)) (i : Nat) : W.rangeAt g (64 * i) (ints .u8 (secOf L i)).toList := by
  have := World.rangeAt_of_block hg (64 * i) 64
  have e : ((ints .u8 L).extract (64 * i) (64 * i + 64)).toList = (ints .u8 (secOf L i)).toList := by
    simp only [ints, List.extract_toArray, secOf, List.map_take, List.map_drop]
    simp [List.extract]
  rw [e] at this
  exact this
/-- A sector by value, out of the middle of a block. -/
theorem run_load_sec {W : World} {g : Nat} {L : List Int} {n i : Nat} {t : TypeId} {fr : Nat × Nat} (hg : W.heap[g]? = some (.cells (ints .u8 L) t fr)) (hL : L.length = 64 * n) (hi : i < n) :
    (Instr.loadAt 65 (.pointer (some ⟨g, 64 * i, none⟩))).run Try.prog W = .ok (.agg (ints .u8 (secOf L i))) W := by
  have h := run_loadAt_mid (P := Try.prog) W g (64 * i) 65 _ _ (secOf_range hg i) under65 rfl (size65 (by simp [ints]; exact secOf_length hL hi))
  rw [h]
theorem run_load_one {W : World} {g : Nat} {x : List Int} {t : TypeId} {fr : Nat × Nat} (hg : W.heap[g]? = some (.cells (ints .u8 x) t fr)) (hx : x.length = 64) :
    (Instr.loadAt 65 (.pointer (some ⟨g, 0, none⟩))).run Try.prog W = .ok (.agg (ints .u8 x)) W := by
  have h := run_load_sec (n := 1) (i := 0) hg (by rw [hx]) (by decide)
  have e : secOf x 0 = x := by unfold secOf; rw [Nat.mul_zero, List.drop_zero, List.take_of_length_le (by omega)]
  rw [e] at h
  exact h
theorem run_store_new (W : World) (c : Array Value) (hc : c.size = 64) (x : List Int) (hx : x.length = 64) :
    (Instr.storeAt 65 (.pointer (some ⟨W.heap.size, 0, none⟩)) (.agg (ints .u8 x))).run Try.prog (W.alloc (.cells c 65)) = .ok () (W.alloc (.cells (ints .u8 x) 65)) :=
  run_storeAt_new W 65 c _ (size65 (by rw [ints_size, hx])) (by rw [hc, ints_size, hx]) (ints_one _ _)
theorem bytes_new (W : World) (x : List Int) (hx : isSec x) (t : TypeId) (W' : World) (hW : W'.heap[W.heap.size]? = some (.cells (ints .u8 x) t (0, 0))) (hs : W.heap.size < W'.heap.size) : BytesAt W' W'.heap.size (some ⟨W.heap.size, 0, none⟩) 64 x :=
  ⟨hx.1, hx.2, fun _ => ⟨W.heap.size, 0, rfl, hs, fun i hi => by
    rw [Nat.zero_add, cell_blk hW i (by rw [hx.1]; exact hi)]
    rfl⟩⟩
set_option maxHeartbeats 1000000 in
theorem read_any {F : Nat → Prop} {W : World} {d : Nat} {s : Dk} (h : DiskAt F W d s) (hoff : s.off = false) (k : Nat) (hk : k < s.n) :
    Calls Try.prog 16 #[.pointer (some ⟨d, 0, none⟩), .int .i64 k] W fun e W' => Below W.heap.size W W' ∧ ∃ A, e = .returned (.tuple #[.slice A 64 64, .int .i64 0]) ∧ BytesAt W' W'.heap.size A 64 ((s.C k).getD (secOf s.L k)) := by
  have hu := up_any h
  rw [hoff] at hu
  obtain ⟨h0, h1, h2, gL, gM, vQ, a1, a2, a3, a4, a5, a6, a7⟩ := id h
  obtain ⟨c0, c1, c2, c3, c4, c5⟩ := six a4
  have hn := h0.n
  have hlk := a6.look k (by omega) (by omega)
  have d1 : decide ((k : Int) < 0) = false := decide_eq_false (by omega)
  have d2 : decide ((s.n : Int) ≤ (k : Int)) = false := decide_eq_false (by omega)
  have d3 : decide (s.n ≤ k) = false := decide_eq_false (by omega)
  have hsec : isSec (secOf s.L k) := ⟨secOf_length h0.len hk, secOf_bytes h0.bytes k⟩
  have hin : ∀ o, (W.alloc o).cell? ⟨d, 0, none⟩ = some (.slice (some ⟨gL, 0, none⟩) s.n s.n) := fun o => (six (blk_alloc a4 o)).1
  have hcs := h0.cache k
  have hrg : ∀ o, (W.alloc o).rangeAt gL (k * 64) (ints .u8 (secOf s.L k)).toList := fun o => by rw [Nat.mul_comm]; exact secOf_range (blk_alloc a5 o) k
  cases hc : s.C k with
  | some x =>
    have hx := (hcs x hc).2.2
    rw [hc] at hlk
    clear h0 h1 h2 a1 a2 a3 a7 hcs
    go_enter Try.func16, Try.ntmps16
    go_wp2_with fail
    refine hu.mono ?_
    rintro e W' ⟨rfl, rfl⟩
    go_wp2_with (refine wpL_store (by rfl) 65 (.tmp 6) (.tmp 31) rfl W.heap.size (ints .u8 x) rfl rfl 65 _ (heap_alloc_last W _) (size65 (by rw [ints_size, hx.1])) (by rw [ints_size, hx.1]; rfl) (ints_one _ _) ?_; rw [setRow_last _ _ _ _ _ rfl])
    go_ret2
    exact ⟨(Below.refl _ _).alloc (Nat.le_refl _) _, _, rfl, bytes_new W x hx 65 _ (heap_alloc_last W _) (by simp)⟩
  | none =>
    rw [hc] at hlk
    clear h0 h1 h2 a1 a2 a3 a7 hcs
    go_enter Try.func16, Try.ntmps16
    go_wp2_with fail
    refine hu.mono ?_
    rintro e W' ⟨rfl, rfl⟩
    go_wp2_with (first | (refine wpList_load_mid rfl 65 (.tmp 40) rfl gL (k * 64) rfl _ _ (hrg _) under65 rfl (size65 (by simp [ints, hsec.1])) ?_) | (refine wpL_store (by rfl) 65 (.tmp 6) (.tmp 31) rfl W.heap.size (ints .u8 (nots 64)) rfl rfl 65 _ (heap_alloc_last W _) (size65 (by rw [ints_size, nots_sec.1])) (by rw [ints_size, nots_sec.1]; rfl) (ints_one _ _) ?_; rw [setRow_last _ _ _ _ _ rfl]) | (refine wpL_store (by rfl) 65 (.tmp 6) (.tmp 41) rfl W.heap.size (ints .u8 (secOf s.L k)) rfl rfl 65 _ (heap_alloc_last W _) (size65 (by rw [ints_size, hsec.1])) (by rw [ints_size, ints_size, hsec.1, nots_sec.1]) (ints_one _ _) ?_; rw [setRow_last _ _ _ _ _ rfl]))
    go_ret2
    exact ⟨(Below.refl _ _).alloc (Nat.le_refl _) _, _, rfl, bytes_new W (secOf s.L k) hsec 65 _ (heap_alloc_last W _) (by simp)⟩
end Go.Proofs.Ytpllifppjlakpaa.Dk
