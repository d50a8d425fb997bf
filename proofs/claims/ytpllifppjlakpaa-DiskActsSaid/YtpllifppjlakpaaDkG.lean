/-
  disk: Restart.
-/
import Derived.Test.YtpllifppjlakpaaDkF
namespace Go.Proofs.Ytpllifppjlakpaa.Dk
open Go.RowKit Go.Shelf Go.Proofs.Ytpllifppjlakpaa
attribute [local go_sem] Oper.semAt_some
set_option linter.unusedVariables false
set_option linter.unusedSimpArgs false
structure FateV where
  stay : Int
  torn : Int
  cut : Int
  head : Bool
def FateV.val (f : FateV) : Value := .agg #[.int .u64 f.stay, .int .i64 f.torn, .int .i64 f.cut, .bool f.head]
/-- Whether the write number i stays. -/
def stays (stay : Int) (i : Nat) : Bool := bits BinOp.and .u64 (stay / 2 ^ (if (63 : Int) < (i : Int) then (63 : Int) else (i : Int)).toNat) 1 == 1
def restStep (f : FateV) (L : List Int) (i : Nat) (q : Nat × List Int) : List Int :=
  if (i : Int) = f.torn then splice L (64 * q.1) (mixOf q.2 (secOf L q.1) (cutOf f.cut 64) f.head)
  else if stays f.stay i = true then splice L (64 * q.1) q.2 else L
def restTo (f : FateV) (Q : List (Nat × List Int)) (L : List Int) : Nat → List Int
  | 0 => L
  | i + 1 => restStep f (restTo f Q L i) i (Q[i]?.getD (0, []))
theorem splice_len {L x : List Int} {i n : Nat} (hL : L.length = 64 * n) (hi : i < n) (hx : x.length = 64) : (splice L (64 * i) x).length = 64 * n := by
  rw [length_splice L _ x (by omega), hL]
theorem splice_bytes {L x : List Int} (i : Nat) (hL : isBytes L) (hx : isBytes x) : isBytes (splice L i x) := by
  intro y hy
  unfold splice at hy
  rcases List.mem_append.1 hy with h | h
  · exact hL y (List.mem_of_mem_take h)
  · rcases List.mem_append.1 h with h | h
    · exact hx y h
    · exact hL y (List.mem_of_mem_drop h)
theorem cutOf_le (c : Int) (n : Nat) : cutOf c n ≤ n := by unfold cutOf; omega
theorem mixOf_sec {a b : List Int} (ha : isSec a) (hb : isBytes b) (c : Int) (head : Bool) : isSec (mixOf a b (cutOf c 64) head) :=
  ⟨by rw [mixOf_length (by rw [ha.1]; exact cutOf_le c 64), ha.1], mixOf_range _ _ ha.2 hb⟩
theorem restStep_ok (f : FateV) {L : List Int} {n : Nat} (hL : L.length = 64 * n) (hb : isBytes L) (i : Nat) {q : Nat × List Int} (hq : q.1 < n) (hs : isSec q.2) : (restStep f L i q).length = 64 * n ∧ isBytes (restStep f L i q) := by
  unfold restStep
  split
  · have := mixOf_sec hs (secOf_bytes hb q.1) f.cut f.head
    exact ⟨splice_len hL hq this.1, splice_bytes _ hb this.2⟩
  · split
    · exact ⟨splice_len hL hq hs.1, splice_bytes _ hb hs.2⟩
    · exact ⟨hL, hb⟩
theorem restTo_ok (f : FateV) {L : List Int} {n : Nat} {Q : List (Nat × List Int)} (hL : L.length = 64 * n) (hb : isBytes L) (hQ : ∀ q ∈ Q, q.1 < n ∧ isSec q.2) : ∀ i, i ≤ Q.length → (restTo f Q L i).length = 64 * n ∧ isBytes (restTo f Q L i)
  | 0, _ => ⟨hL, hb⟩
  | i + 1, h => by
    obtain ⟨h1, h2⟩ := restTo_ok f hL hb hQ i (by omega)
    have hi : i < Q.length := by omega
    rw [restTo, List.getElem?_eq_getElem hi]
    have := hQ Q[i] (List.getElem_mem hi)
    exact restStep_ok f h1 h2 i this.1 this.2
def restDk (s : Dk) (f : FateV) : Dk := { s with L := restTo f s.Q s.L s.Q.length, C := fun _ => none, Q := [], armed := -1, off := false }
theorem flat_take : ∀ (Q : List (Nat × List Int)) (hQ : ∀ q ∈ Q, isSec q.2) (i : Nat) (hi : i < Q.length) (j : Nat) (v : Value), (waitCells Q[i])[j]? = some v → (Q.flatMap waitCells)[i * 65 + j]? = some v
  | [], _, i, hi, _, _, _ => absurd hi (Nat.not_lt_zero i)
  | q :: Q, hQ, 0, hi, j, v, h => by
    rw [List.flatMap_cons, Nat.zero_mul, Nat.zero_add]
    exact (List.getElem?_append_left (List.getElem?_eq_some_iff.1 h).1).trans h
  | q :: Q, hQ, i + 1, hi, j, v, h => by
    have hl := waitCells_length q (hQ q List.mem_cons_self)
    rw [List.flatMap_cons, List.getElem?_append_right (by rw [hl]; omega), hl, show (i + 1) * 65 + j - 65 = i * 65 + j by omega]
    exact flat_take Q (fun q hq => hQ q (List.mem_cons_of_mem _ hq)) i (by simpa using hi) j v h
/-- The i-th waiting write lies in its place. -/
theorem wait_range {W : World} {v : Value} {Q : List (Nat × List Int)} (h : W.ownsRow 0 68 65 v Q.length (Q.flatMap waitCells)) (hQ : ∀ q ∈ Q, isSec q.2) {g n c : Nat} (hv : v = .slice (some ⟨g, 0, none⟩) n c) (i : Nat) (hi : i < Q.length) : W.rangeAt g (i * 65) (waitCells Q[i]) := fun j u hj => by
  have := h.cells (g := g) (by rw [hv]; rfl) (i * 65 + j) u (flat_take Q hQ i hi j u hj)
  rw [Addr.add_mid, Nat.zero_add] at this
  exact this
theorem zero68 : ∃ Z : Array Value, Z.size = 65 ∧ ∀ w, (zeroValue 68).run Try.prog w = .ok (.agg Z) w := by
  obtain ⟨i0, hi, hz0, hz1, hz2⟩ := info_parts info68
  exact ⟨#[Value.int .i64 0] ++ ints .u8 (nots 64), by rw [Array.size_append, ints_size, nots_sec.1]; rfl, fun w => by simp [zeroValue, typeInfo, hi, hz0]⟩
theorem Keeps.setRow {F : Nat → Prop} {w w' : World} (h : Keeps F w w') {g : Nat} (hg : F g) (cs : Array Value) : Keeps F w (w'.setRow g cs) :=
  ⟨h.os, h.tape, h.output, by simpa using h.size, fun k hk hf => (setRow_other w' g k cs (fun e => hf (by rw [e]; exact hg))).trans (h.block k hk hf)⟩
theorem bytes_of_range {W : World} {b off B : Nat} {x : List Int} (hx : isSec x) (hb : b < B) (h : W.rangeAt b off (ints .u8 x).toList) : BytesAt W B (some ⟨b, off, none⟩) 64 x :=
  ⟨hx.1, hx.2, fun _ => ⟨b, off, rfl, hb, fun i hi => h i _ (by
    have hix : i < x.length := by rw [hx.1]; exact hi
    rw [Array.getElem?_toList, ints_get, List.getElem?_eq_getElem hix]
    rfl)⟩⟩
set_option maxHeartbeats 2000000 in
theorem restart_any {F : Nat → Prop} {W : World} {d : Nat} {s : Dk} (h : DiskAt F W d s) (f : FateV) (hstay : 0 ≤ f.stay ∧ f.stay < 18446744073709551616) :
    Calls Try.prog 12 #[.pointer (some ⟨d, 0, none⟩), f.val] W fun e W' => e = .returned (.tuple #[]) ∧ Keeps F W W' ∧ DiskAt F W' d (restDk s f) := by
  obtain ⟨h0, h1, h2, gL, gM, vQ, a1, a2, a3, a4, a5, a6, a7⟩ := id h
  have hm := map_eq
  have hA : ∃ AQ cQ, vQ = .slice AQ s.Q.length cQ := by
    rcases a7.2 with ⟨rfl, hn⟩ | ⟨g, cap, cur, rfl, _⟩
    · rw [hn]; exact ⟨_, _, rfl⟩
    · exact ⟨_, _, rfl⟩
  obtain ⟨AQ, cQ, rfl⟩ := hA
  obtain ⟨stay, torn, cut, head⟩ := f
  have b4 : (W.alloc (.cells #[.int .u64 stay, .int .i64 torn, .int .i64 cut, .bool head] 30)).heap[d]? = _ := blk_alloc a4 _
  obtain ⟨c0, c1, c2, c3, c4, c5⟩ := six b4
  go_enter Try.func12, Try.ntmps12
  unfold FateV.val
  go_wp2_with fail
  have b5 : (W.alloc (.cells #[.int .u64 stay, .int .i64 torn, .int .i64 cut, .bool head] 30)).heap[gL]? = _ := blk_alloc a5 _
  have bf : (W.alloc (.cells #[.int .u64 stay, .int .i64 torn, .int .i64 cut, .bool head] 30)).heap[W.heap.size]? = _ := heap_alloc_last W _
  have b7 := a7.alloc (.cells #[.int .u64 stay, .int .i64 torn, .int .i64 cut, .bool head] 30)
  have b6 : CacheAt (W.alloc (.cells #[.int .u64 stay, .int .i64 torn, .int .i64 cut, .bool head] 30)) gM s.Q.length s.C := a6.kept (by simp) (Below.heap_alloc _ _ _ (h1 gM a2))
  have hB1 : Below W.heap.size W (W.alloc (.cells #[.int .u64 stay, .int .i64 torn, .int .i64 cut, .bool head] 30)) := (Below.refl _ _).alloc (Nat.le_refl _) _
  have hKW : Keeps F W (W.alloc (.cells #[.int .u64 stay, .int .i64 torn, .int .i64 cut, .bool head] 30)) := Keeps.of_below hB1
  have hgM : gM < (W.alloc (.cells #[.int .u64 stay, .int .i64 torn, .int .i64 cut, .bool head] 30)).heap.size := Nat.lt_of_lt_of_le (h1 gM a2) hB1.size
  have hFW : ∀ b, F b → b < W.heap.size := h1
  clear c0 c1 c2 c3 c4 c5 a4 a5 a6 a7
  generalize W.alloc (.cells #[.int .u64 stay, .int .i64 torn, .int .i64 cut, .bool head] 30) = W1 at b4 b5 bf b6 b7 hB1 hKW hgM ⊢
  have hdL : d ≠ gL := fun e => by subst e; exact absurd (blk_type b4 b5) (by decide)
  have hfL : W.heap.size ≠ gL := fun e => by have := h1 gL a1; omega
  generalize W.heap.size = Bf at bf hfL h1 hB1 ⊢
  clear hB1
  have hQs : ∀ q ∈ s.Q, isSec q.2 := fun q hq => (h0.queue q hq).2
  go_loopw [22] (fun v wr => ∃ i : Nat, i ≤ s.Q.length ∧ v = .int .i64 i ∧ Keeps (fun b => b = gL) W1 wr ∧ wr.heap[gL]? = some (.cells (ints .u8 (restTo ⟨stay, torn, cut, head⟩ s.Q s.L i)) 65 (0, 0))) (fun v _ => s.Q.length - (intOf v).toNat)
  case atStart => exact ⟨0, Nat.zero_le _, rfl, Keeps.refl _ _, b5⟩
  case round =>
    obtain ⟨i, hi, rfl, hk, hL⟩ := hrel
    have hroom := h0.room
    have d4 := (hk.block d (blk_lt b4) hdL).trans b4
    by_cases hlt : i < s.Q.length
    · obtain ⟨gq, rfl⟩ : ∃ gq, AQ = some ⟨gq, 0, none⟩ := by
        rcases b7.2 with ⟨hv, _⟩ | ⟨g, cap, cur, hv, _⟩
        · injection hv with e1 e2 _
          omega
        · injection hv with e1 _ _
          exact ⟨g, e1⟩
      have dq := wait_range (ownsRow_same b7 (fun k hk' hl => hk.block k hl (fun e => by
        subst e
        obtain ⟨cl, hh⟩ := ownsRow_type b7 hk'
        exact absurd (blk_type b5 hh) (by decide)))) hQs rfl i hlt
      have df := (hk.block _ (blk_lt bf) hfL).trans bf
      have hq := h0.queue _ (List.getElem_mem hlt)
      have hLok := restTo_ok ⟨stay, torn, cut, head⟩ h0.len h0.bytes h0.queue i hi
      have hstep : restTo ⟨stay, torn, cut, head⟩ s.Q s.L (i + 1) = restStep ⟨stay, torn, cut, head⟩ (restTo ⟨stay, torn, cut, head⟩ s.Q s.L i) i s.Q[i] := by rw [restTo, List.getElem?_eq_getElem hlt]; rfl
      have Hstep := Lib.hid hstep
      have hwl := waitCells_length _ hq.2
      have hw1 := waitCells_one s.Q[i]
      clear hstep b4 b5 bf b6 b7 hQs h h0 a3
      obtain ⟨f68, hu68⟩ := under68
      have Hu := Lib.hid hu68
      clear hu68
      generalize restTo ⟨stay, torn, cut, head⟩ s.Q s.L i = L at hL hLok Hstep ⊢
      generalize hqq : s.Q[i] = q at dq hq Hstep hwl hw1 ⊢
      clear hqq
      obtain ⟨Z, hZs, z68⟩ := zero68
      go_wp2_with (first | (refine wpList_load_mid rfl 68 (.tmp 25) rfl gq (i * 65) rfl _ _ dq Hu.out rfl (size68 hwl) ?_) | (refine wpL_store (by rfl) 68 (.tmp 5) (.tmp 26) rfl wr.heap.size (waitCells q).toArray rfl rfl 68 _ (heap_alloc_last wr _) (size68 (by simpa using hwl)) (by rw [hZs]; simpa using hwl.symm) (all_oneCell_toArray hw1) ?_; rw [setRow_last _ _ _ _ _ rfl]))
      have hq0 : (wr.alloc (.cells (waitCells q).toArray 68)).cell? ⟨wr.heap.size, 0, none⟩ = some (.int .i64 (q.1 : Int)) := cell_of_row _ _ 0 _ _ _ (heap_alloc_last wr _)
      have hqr : (wr.alloc (.cells (waitCells q).toArray 68)).rangeAt wr.heap.size 1 (ints .u8 q.2).toList := fun j v hv => by
        rw [cell_of_row _ _ _ _ _ _ (heap_alloc_last wr _)]
        rw [Array.getElem?_toList, ints_get] at hv
        rw [List.getElem?_toArray, Nat.add_comm, waitCells, List.getElem?_cons_succ, List.getElem?_map]
        exact hv
      have d5 := blk_alloc d4 (.cells (waitCells q).toArray 68)
      have f5 := blk_alloc df (.cells (waitCells q).toArray 68)
      have L5 := blk_alloc hL (.cells (waitCells q).toArray 68)
      have hk5 : Keeps (fun b => b = gL) W1 (wr.alloc (.cells (waitCells q).toArray 68)) := hk.trans (Keeps.of_below (F := fun b => b = gL) ((Below.refl _ _).alloc (Nat.le_refl _) _)) (fun b _ h => h)
      have ht5 : wr.heap.size < (wr.alloc (.cells (waitCells q).toArray 68)).heap.size := by simp
      have hqL : wr.heap.size ≠ gL := fun e => by have := blk_lt hL; omega
      have hqd : wr.heap.size ≠ d := fun e => by have := blk_lt d4; omega
      clear hw1 hwl dq d4 df hL hk
      generalize wr.alloc (.cells (waitCells q).toArray 68) = W3 at hq0 hqr d5 f5 L5 hk5 ht5 ⊢
      generalize wr.heap.size = B5 at hq0 hqr ht5 hqL hqd ⊢
      have hc5 := (six d5).1
      have hck : ∀ w : World, (∀ b, b < W3.heap.size → w.heap[b]? = W3.heap[b]?) → ∀ p : Addr, p.block < W3.heap.size → w.cell? p = W3.cell? p := fun w hw p hp => World.cell?_of_block (hw p.block hp)
      have hld : ∀ w : World, (∀ b, b < W3.heap.size → w.heap[b]? = W3.heap[b]?) → (Instr.loadAt 65 (.pointer (some ⟨gL, q.1 * 64, none⟩))).run Try.prog w = .ok (.agg (ints .u8 (secOf L q.1))) w := fun w hw => by
        rw [Nat.mul_comm]
        exact run_load_sec ((hw gL (blk_lt L5)).trans L5) hLok.1 hq.1
      refine wp_region_held (S := fun w => ∀ b, b < W3.heap.size → w.heap[b]? = W3.heap[b]?) (by kernel_rfl) ?_
      change wpAnyH _ _ _ _ _ _ _ _ W3.drew
      have hS : ∀ b, b < W3.heap.size → W3.drew.heap[b]? = W3.heap[b]? := fun b _ => rfl
      have hdlt := blk_lt d5
      refine wpAnyH_take (i := 0) (v := ?_) rfl (by kernel_rfl) (by kernel_rfl) (by kernel_rfl) (fun _ _ _ h => h) (Or.inl ⟨by rfl, fun w hw => ?_⟩) hS ?_
      rotate_left 1
      · ((go_simp; try rfl))
      try simp only [Act.put, List.getElem_toArray, List.getElem_cons_zero, List.getElem_cons_succ, List.setIfInBounds_toArray, List.set_cons_succ, List.set_cons_zero]
      refine wpAnyH_take (i := 1) (v := ?_) rfl (by kernel_rfl) (by kernel_rfl) (by kernel_rfl) (fun _ _ _ h => h) (Or.inl ⟨by rfl, fun w hw => ?_⟩) hS ?_
      rotate_left 1
      · ((go_simp; try rfl))
      try simp only [Act.put, List.getElem_toArray, List.getElem_cons_zero, List.getElem_cons_succ, List.setIfInBounds_toArray, List.set_cons_succ, List.set_cons_zero]
      refine wpAnyH_take (i := 2) (v := ?_) rfl (by kernel_rfl) (by kernel_rfl) (by kernel_rfl) (fun _ _ _ h => h) (Or.inl ⟨by rfl, fun w hw => ?_⟩) hS ?_
      rotate_left 1
      · ((go_simp; try rfl))
      try simp only [Act.put, List.getElem_toArray, List.getElem_cons_zero, List.getElem_cons_succ, List.setIfInBounds_toArray, List.set_cons_succ, List.set_cons_zero]
      refine wpAnyH_take (i := 3) (v := ?_) rfl (by kernel_rfl) (by kernel_rfl) (by kernel_rfl) (fun _ _ _ h => h) (Or.inl ⟨by rfl, fun w hw => ?_⟩) hS ?_
      rotate_left 1
      · ((have e := (hck w hw ⟨d, 0, none⟩ hdlt).trans hc5; go_simp; try rfl))
      try simp only [Act.put, List.getElem_toArray, List.getElem_cons_zero, List.getElem_cons_succ, List.setIfInBounds_toArray, List.set_cons_succ, List.set_cons_zero]
      refine wpAnyH_take (i := 4) (v := ?_) rfl (by kernel_rfl) (by kernel_rfl) (by kernel_rfl) (fun _ _ _ h => h) (Or.inl ⟨by rfl, fun w hw => ?_⟩) hS ?_
      rotate_left 1
      · ((go_simp; try rfl))
      try simp only [Act.put, List.getElem_toArray, List.getElem_cons_zero, List.getElem_cons_succ, List.setIfInBounds_toArray, List.set_cons_succ, List.set_cons_zero]
      refine wpAnyH_take (i := 5) (v := ?_) rfl (by kernel_rfl) (by kernel_rfl) (by kernel_rfl) (fun _ _ _ h => h) (Or.inl ⟨by rfl, fun w hw => ?_⟩) hS ?_
      rotate_left 1
      · ((have e := (hck w hw ⟨B5, 0, none⟩ ht5).trans hq0; go_simp; try rfl))
      try simp only [Act.put, List.getElem_toArray, List.getElem_cons_zero, List.getElem_cons_succ, List.setIfInBounds_toArray, List.set_cons_succ, List.set_cons_zero]
      have hqn := hq.1
      have hn2 := hLok.1
      refine wpAnyH_take (i := 6) (v := ?_) rfl (by kernel_rfl) (by kernel_rfl) (by kernel_rfl) (fun _ _ _ h => h) (Or.inl ⟨by rfl, fun w hw => ?_⟩) hS ?_
      rotate_left 1
      · ((go_simp; try rfl))
      try simp only [Act.put, List.getElem_toArray, List.getElem_cons_zero, List.getElem_cons_succ, List.setIfInBounds_toArray, List.set_cons_succ, List.set_cons_zero]
      refine wpAnyH_take (i := 7) (v := (.agg (ints .u8 (secOf L q.1)))) rfl (by kernel_rfl) (by kernel_rfl) (by kernel_rfl) (fun _ _ _ h => h) (Or.inl ⟨by rfl, fun w hw => ?_⟩) hS ?_
      · ((exact exec_load rfl rfl (hld w hw)))
      try simp only [Act.put, List.getElem_toArray, List.getElem_cons_zero, List.getElem_cons_succ, List.setIfInBounds_toArray, List.set_cons_succ, List.set_cons_zero]
      clear hld
      refine wpAnyH_ready (rs := [8]) (by kernel_rfl) (by simp) ?_
      refine AllReadyH.cons rfl (fun K hK => ?_) AllReadyH.nil
      go_simp
      refine hK.out _ _ (fun b hb => Below.heap_alloc _ _ b hb) (fun hS => ?_)
      clear hK K
      try simp only [Act.put, List.getElem_toArray, List.getElem_cons_zero, List.getElem_cons_succ, List.setIfInBounds_toArray, List.set_cons_succ, List.set_cons_zero]
      refine wpAnyH_ready (rs := [9]) (by kernel_rfl) (by simp) ?_
      refine AllReadyH.cons rfl (fun K hK => ?_) AllReadyH.nil
      refine any_runs (by rfl) (runs_store rfl rfl rfl (run_store_new W3.drew _ rfl _ (secOf_length hLok.1 hq.1))) ?_
      refine hK.out _ _ (fun b hb => Below.heap_alloc _ _ b hb) (fun hS => ?_)
      clear hK K
      try simp only [Act.put, List.getElem_toArray, List.getElem_cons_zero, List.getElem_cons_succ, List.setIfInBounds_toArray, List.set_cons_succ, List.set_cons_zero]
      refine wpAnyH_done (by kernel_rfl) ?_ _
      have d6 := (hS d hdlt).trans d5
      have f6 := (hS Bf (blk_lt f5)).trans f5
      have L6 := (hS gL (blk_lt L5)).trans L5
      have q6 := (World.cell?_of_block (a := ⟨B5, 0, none⟩) (hS B5 ht5)).trans hq0
      have r6 : (W3.drew.alloc (.cells (ints .u8 (secOf L q.1)) 65)).rangeAt B5 1 (ints .u8 q.2).toList := fun j v hv => (World.cell?_of_block (a := ⟨B5, 1 + j, none⟩) (hS B5 ht5)).trans (hqr j v hv)
      have x6 : (W3.drew.alloc (.cells (ints .u8 (secOf L q.1)) 65)).heap[W3.heap.size]? = some (.cells (ints .u8 (secOf L q.1)) 65 (0, 0)) := heap_alloc_last W3.drew _
      have k6 : Keeps (fun b => b = gL) W1 (W3.drew.alloc (.cells (ints .u8 (secOf L q.1)) 65)) := hk5.trans (Keeps.of_below (F := fun b => b = gL) (((Below.refl _ _).drew).alloc (Nat.le_refl _) _)) (fun b _ h => h)
      have n6 : W3.heap.size ≠ gL := fun e => by have := blk_lt L5; omega
      have n7 : W3.heap.size ≠ d := fun e => by omega
      clear hS hck hc5 hq0 hqr d5 f5 L5 hk5 hdlt ht5
      generalize W3.drew.alloc (.cells (ints .u8 (secOf L q.1)) 65) = W4 at d6 f6 L6 q6 r6 x6 k6 ⊢
      generalize W3.heap.size = B6 at x6 n6 n7 ⊢
      have g0 : W4.cell? ⟨Bf, 0, none⟩ = some (.int .u64 stay) := cell_of_row W4 _ 0 _ _ _ f6
      have g1 : W4.cell? ⟨Bf, 1, none⟩ = some (.int .i64 torn) := cell_of_row W4 _ 1 _ _ _ f6
      have g2 : W4.cell? ⟨Bf, 2, none⟩ = some (.int .i64 cut) := cell_of_row W4 _ 2 _ _ _ f6
      have g3 : W4.cell? ⟨Bf, 3, none⟩ = some (.bool head) := cell_of_row W4 _ 3 _ _ _ f6
      have hd0 := (six d6).1
      by_cases ht : (i : Int) = torn
      · have htb : ((i : Int) == torn) = true := beq_iff_eq.2 ht
        go_wp2_with fail
        have hb5 : BytesAt W4.drew W4.drew.heap.size (some ⟨B5, 1, none⟩) 64 q.2 := bytes_of_range hq.2 (World.block_lt_of_cell? W4 _ q6) ((World.rangeAt_drew _ _ _ _).2 r6)
        have hsec : isSec (secOf L q.1) := ⟨secOf_length hLok.1 hq.1, secOf_bytes hLok.2 _⟩
        have hb6 : BytesAt W4.drew W4.drew.heap.size (some ⟨B6, 0, none⟩) 64 (secOf L q.1) := bytes_of_range hsec (blk_lt x6) (fun j v hv => by rw [cell_of_row W4.drew B6 (0 + j) _ _ _ x6, Nat.zero_add]; simpa using hv)
        have hmx := mix_any (some ⟨B5, 1, none⟩) (some ⟨B6, 0, none⟩) 64 64 64 64 q.2 (secOf L q.1) cut head W4.drew hb5 hb6 (by decide) (by decide) (by decide) (by decide)
        have hck : ∀ w : World, (∀ b, b < W4.heap.size → b ≠ gL → w.heap[b]? = W4.heap[b]?) → ∀ p : Addr, p.block < W4.heap.size → p.block ≠ gL → w.cell? p = W4.cell? p := fun w hw p hp hn => World.cell?_of_block (hw p.block hp hn)
        refine wp_region_held (S := fun w => ∀ b, b < W4.heap.size → b ≠ gL → w.heap[b]? = W4.heap[b]?) (by kernel_rfl) ?_
        change wpAnyH _ _ _ _ _ _ _ _ W4.drew
        have hS : ∀ b, b < W4.heap.size → b ≠ gL → W4.drew.heap[b]? = W4.heap[b]? := fun b _ _ => rfl
        have hdlt := blk_lt d6
        have hflt := blk_lt f6
        have h5lt := World.block_lt_of_cell? W4 _ q6
        refine wpAnyH_take (i := 0) (v := ?_) rfl (by kernel_rfl) (by kernel_rfl) (by kernel_rfl) (fun _ _ _ h => h) (Or.inl ⟨by rfl, fun w hw => ?_⟩) hS ?_
        rotate_left 1
        · ((go_simp; try rfl))
        try simp only [Act.put, List.getElem_toArray, List.getElem_cons_zero, List.getElem_cons_succ, List.setIfInBounds_toArray, List.set_cons_succ, List.set_cons_zero]
        refine wpAnyH_take (i := 1) (v := ?_) rfl (by kernel_rfl) (by kernel_rfl) (by kernel_rfl) (fun _ _ _ h => h) (Or.inl ⟨by rfl, fun w hw => ?_⟩) hS ?_
        rotate_left 1
        · ((go_simp; try rfl))
        try simp only [Act.put, List.getElem_toArray, List.getElem_cons_zero, List.getElem_cons_succ, List.setIfInBounds_toArray, List.set_cons_succ, List.set_cons_zero]
        refine wpAnyH_take (i := 2) (v := ?_) rfl (by kernel_rfl) (by kernel_rfl) (by kernel_rfl) (fun _ _ _ h => h) (Or.inl ⟨by rfl, fun w hw => ?_⟩) hS ?_
        rotate_left 1
        · ((go_simp; try rfl))
        try simp only [Act.put, List.getElem_toArray, List.getElem_cons_zero, List.getElem_cons_succ, List.setIfInBounds_toArray, List.set_cons_succ, List.set_cons_zero]
        refine wpAnyH_take (i := 3) (v := ?_) rfl (by kernel_rfl) (by kernel_rfl) (by kernel_rfl) (fun _ _ _ h => h) (Or.inl ⟨by rfl, fun w hw => ?_⟩) hS ?_
        rotate_left 1
        · ((have e := (hck w hw ⟨d, 0, none⟩ hdlt hdL).trans hd0; go_simp; try rfl))
        try simp only [Act.put, List.getElem_toArray, List.getElem_cons_zero, List.getElem_cons_succ, List.setIfInBounds_toArray, List.set_cons_succ, List.set_cons_zero]
        refine wpAnyH_take (i := 4) (v := ?_) rfl (by kernel_rfl) (by kernel_rfl) (by kernel_rfl) (fun _ _ _ h => h) (Or.inl ⟨by rfl, fun w hw => ?_⟩) hS ?_
        rotate_left 1
        · ((go_simp; try rfl))
        try simp only [Act.put, List.getElem_toArray, List.getElem_cons_zero, List.getElem_cons_succ, List.setIfInBounds_toArray, List.set_cons_succ, List.set_cons_zero]
        refine wpAnyH_take (i := 5) (v := ?_) rfl (by kernel_rfl) (by kernel_rfl) (by kernel_rfl) (fun _ _ _ h => h) (Or.inl ⟨by rfl, fun w hw => ?_⟩) hS ?_
        rotate_left 1
        · ((have e := (hck w hw ⟨B5, 0, none⟩ h5lt hqL).trans q6; go_simp; try rfl))
        try simp only [Act.put, List.getElem_toArray, List.getElem_cons_zero, List.getElem_cons_succ, List.setIfInBounds_toArray, List.set_cons_succ, List.set_cons_zero]
        refine wpAnyH_take (i := 6) (v := ?_) rfl (by kernel_rfl) (by kernel_rfl) (by kernel_rfl) (fun _ _ _ h => h) (Or.inl ⟨by rfl, fun w hw => ?_⟩) hS ?_
        rotate_left 1
        · ((go_simp; try rfl))
        try simp only [Act.put, List.getElem_toArray, List.getElem_cons_zero, List.getElem_cons_succ, List.setIfInBounds_toArray, List.set_cons_succ, List.set_cons_zero]
        refine wpAnyH_take (i := 7) (v := ?_) rfl (by kernel_rfl) (by kernel_rfl) (by kernel_rfl) (fun _ _ _ h => h) (Or.inl ⟨by rfl, fun w hw => ?_⟩) hS ?_
        rotate_left 1
        · ((go_simp; try rfl))
        try simp only [Act.put, List.getElem_toArray, List.getElem_cons_zero, List.getElem_cons_succ, List.setIfInBounds_toArray, List.set_cons_succ, List.set_cons_zero]
        refine wpAnyH_take (i := 8) (v := ?_) rfl (by kernel_rfl) (by kernel_rfl) (by kernel_rfl) (fun _ _ _ h => h) (Or.inl ⟨by rfl, fun w hw => ?_⟩) hS ?_
        rotate_left 1
        · ((go_simp; try rfl))
        try simp only [Act.put, List.getElem_toArray, List.getElem_cons_zero, List.getElem_cons_succ, List.setIfInBounds_toArray, List.set_cons_succ, List.set_cons_zero]
        refine wpAnyH_take (i := 9) (v := ?_) rfl (by kernel_rfl) (by kernel_rfl) (by kernel_rfl) (fun _ _ _ h => h) (Or.inl ⟨by rfl, fun w hw => ?_⟩) hS ?_
        rotate_left 1
        · ((go_simp; try rfl))
        try simp only [Act.put, List.getElem_toArray, List.getElem_cons_zero, List.getElem_cons_succ, List.setIfInBounds_toArray, List.set_cons_succ, List.set_cons_zero]
        refine wpAnyH_take (i := 10) (v := ?_) rfl (by kernel_rfl) (by kernel_rfl) (by kernel_rfl) (fun _ _ _ h => h) (Or.inl ⟨by rfl, fun w hw => ?_⟩) hS ?_
        rotate_left 1
        · ((go_simp; try rfl))
        try simp only [Act.put, List.getElem_toArray, List.getElem_cons_zero, List.getElem_cons_succ, List.setIfInBounds_toArray, List.set_cons_succ, List.set_cons_zero]
        refine wpAnyH_take (i := 11) (v := ?_) rfl (by kernel_rfl) (by kernel_rfl) (by kernel_rfl) (fun _ _ _ h => h) (Or.inl ⟨by rfl, fun w hw => ?_⟩) hS ?_
        rotate_left 1
        · ((go_simp; try rfl))
        try simp only [Act.put, List.getElem_toArray, List.getElem_cons_zero, List.getElem_cons_succ, List.setIfInBounds_toArray, List.set_cons_succ, List.set_cons_zero]
        refine wpAnyH_take (i := 12) (v := ?_) rfl (by kernel_rfl) (by kernel_rfl) (by kernel_rfl) (fun _ _ _ h => h) (Or.inl ⟨by rfl, fun w hw => ?_⟩) hS ?_
        rotate_left 1
        · ((have e := (hck w hw ⟨Bf, 2, none⟩ hflt hfL).trans g2; go_simp; try rfl))
        try simp only [Act.put, List.getElem_toArray, List.getElem_cons_zero, List.getElem_cons_succ, List.setIfInBounds_toArray, List.set_cons_succ, List.set_cons_zero]
        refine wpAnyH_take (i := 13) (v := ?_) rfl (by kernel_rfl) (by kernel_rfl) (by kernel_rfl) (fun _ _ _ h => h) (Or.inl ⟨by rfl, fun w hw => ?_⟩) hS ?_
        rotate_left 1
        · ((go_simp; try rfl))
        try simp only [Act.put, List.getElem_toArray, List.getElem_cons_zero, List.getElem_cons_succ, List.setIfInBounds_toArray, List.set_cons_succ, List.set_cons_zero]
        refine wpAnyH_take (i := 14) (v := ?_) rfl (by kernel_rfl) (by kernel_rfl) (by kernel_rfl) (fun _ _ _ h => h) (Or.inl ⟨by rfl, fun w hw => ?_⟩) hS ?_
        rotate_left 1
        · ((have e := (hck w hw ⟨Bf, 3, none⟩ hflt hfL).trans g3; go_simp; try rfl))
        try simp only [Act.put, List.getElem_toArray, List.getElem_cons_zero, List.getElem_cons_succ, List.setIfInBounds_toArray, List.set_cons_succ, List.set_cons_zero]
        clear hck
        refine wpAnyH_ready (rs := [15]) (by kernel_rfl) (by simp) ?_
        refine AllReadyH.cons rfl (fun K hK => ?_) AllReadyH.nil
        go_simp
        refine hmx.mono ?_
        rintro e W5 ⟨⟨A2, c2, rfl, hown⟩, hbel⟩
        dsimp only
        refine hK.out _ _ (fun b hb _ => hbel.block b hb) (fun hS => ?_)
        clear hK K
        try simp only [Act.put, List.getElem_toArray, List.getElem_cons_zero, List.getElem_cons_succ, List.setIfInBounds_toArray, List.set_cons_succ, List.set_cons_zero]
        have hms := mixOf_sec hq.2 hsec.2 cut head
        have L7 := (hbel.block gL (blk_lt L6)).trans L6
        have hcp := fun ty => run_copy_sec (W := W5) (ty := ty) (c := c2) (dc := 64) L7 (i := q.1) (by omega) (hown.at_ hms.2) (by decide)
        rw [List.take_of_length_le (by rw [hms.1]; decide), Nat.mul_comm] at hcp
        refine wpAnyH_ready (rs := [16]) (by kernel_rfl) (by simp) ?_
        refine AllReadyH.cons rfl (fun K hK => ?_) AllReadyH.nil
        refine any_runs (by rfl) (runs_copy rfl rfl rfl (hcp _)) ?_
        refine hK.out _ _ (fun b hb hn => (setRow_other _ gL b _ hn).trans (hbel.block b hb)) (fun hS => ?_)
        clear hK K
        try simp only [Act.put, List.getElem_toArray, List.getElem_cons_zero, List.getElem_cons_succ, List.setIfInBounds_toArray, List.set_cons_succ, List.set_cons_zero]
        refine wpAnyH_done (by kernel_rfl) ?_ _
        clear hcp hmx
        go_wp2_with fail
        refine ⟨⟨i + 1, by omega, by go_num, (k6.trans (Keeps.of_below (F := fun b => b = gL) ((Below.refl _ _).drew.trans hbel)) (fun b _ h => h)).setRow rfl _, ?_⟩, by simp [intOf]; omega⟩
        rw [Hstep.out, restStep, if_pos ht, Nat.mul_comm 64 q.1]
        exact setRow_heap W5 gL _ _ 65 (0, 0) L7
      · have htb : ((i : Int) == torn) = false := beq_eq_false_iff_ne.2 ht
        have hst9 := run_store_sec (W := W4.drew) L6 (i := q.1) (by omega) hq.2.1
        rw [Nat.mul_comm] at hst9
        have hld9 : (Instr.loadAt 65 (.pointer (some ⟨B5, 1, none⟩))).run Try.prog W4.drew = .ok (.agg (ints .u8 q.2)) W4.drew := run_loadAt_mid (P := Try.prog) W4.drew B5 1 65 _ _ ((World.rangeAt_drew _ _ _ _).2 r6) under65 rfl (size65 (by simp [ints, hq.2.1]))
        have hss : ∃ b, stays stay i = b := ⟨_, rfl⟩
        obtain ⟨b, hb⟩ := hss
        have Hb := Lib.hid hb
        unfold stays at hb
        by_cases h63 : (63 : Int) < (i : Int)
        · have hb2 := hb
          rw [if_pos h63] at hb2
          have hb3 : (bits BinOp.and .u64 (stay / 2 ^ 63) 1 == 1) = b := hb2
          have hb4 : (bits BinOp.and .u64 (stay / 9223372036854775808) 1 == 1) = b := hb2
          have h64 : ¬ (i : Int) ≤ 63 := by omega
          cases b
          · go_wp2_with fail
            refine ⟨⟨i + 1, by omega, by go_num, k6, ?_⟩, by simp [intOf]; omega⟩
            rw [Hstep.out, restStep, if_neg ht, if_neg (by rw [Hb.out]; decide)]
            exact L6
          · go_wp2_with fail
            refine wp_region_still_tail 9 (by kernel_rfl) (by kernel_rfl) ?_
            simp only [List.take_succ_cons, List.take_zero, List.drop_succ_cons, List.drop_zero]
            change wpStill _ _ W4.drew _ _ _
            still_step
            still_step
            still_step
            still_step
            still_step
            still_step
            still_step
            refine wpStill_step (fun K hK => ?_)
            refine still_runs (by rfl) (runs_load rfl rfl hld9) ?_
            refine hK _ ?_
            clear hK K
            try simp only [Act.put, List.getElem_toArray, List.getElem_cons_zero, List.getElem_cons_succ, List.setIfInBounds_toArray, List.set_cons_succ, List.set_cons_zero]
            still_step
            refine wpStill_nil ?_
            change wpList _ _ _ _ _ W4.drew
            refine list_runs (by rfl) (runs_store rfl rfl rfl hst9) ?_
            go_wp2_with fail
            refine ⟨⟨i + 1, by omega, by go_num, (k6.trans (Keeps.of_below (F := fun b => b = gL) (Below.refl _ _).drew) (fun b _ h => h)).setRow rfl _, ?_⟩, by simp [intOf]; omega⟩
            rw [Hstep.out, restStep, if_neg ht, if_pos Hb.out, Nat.mul_comm 64 q.1]
            exact setRow_heap W4.drew gL _ _ 65 (0, 0) L6
        · have hb2 := hb
          rw [if_neg h63, Int.toNat_natCast] at hb2
          have h64 : (i : Int) ≤ 63 := by omega
          cases b
          · go_wp2_with fail
            refine ⟨⟨i + 1, by omega, by go_num, k6, ?_⟩, by simp [intOf]; omega⟩
            rw [Hstep.out, restStep, if_neg ht, if_neg (by rw [Hb.out]; decide)]
            exact L6
          · go_wp2_with fail
            refine wp_region_still_tail 9 (by kernel_rfl) (by kernel_rfl) ?_
            simp only [List.take_succ_cons, List.take_zero, List.drop_succ_cons, List.drop_zero]
            change wpStill _ _ W4.drew _ _ _
            still_step
            still_step
            still_step
            still_step
            still_step
            still_step
            still_step
            refine wpStill_step (fun K hK => ?_)
            refine still_runs (by rfl) (runs_load rfl rfl hld9) ?_
            refine hK _ ?_
            clear hK K
            try simp only [Act.put, List.getElem_toArray, List.getElem_cons_zero, List.getElem_cons_succ, List.setIfInBounds_toArray, List.set_cons_succ, List.set_cons_zero]
            still_step
            refine wpStill_nil ?_
            change wpList _ _ _ _ _ W4.drew
            refine list_runs (by rfl) (runs_store rfl rfl rfl hst9) ?_
            go_wp2_with fail
            refine ⟨⟨i + 1, by omega, by go_num, (k6.trans (Keeps.of_below (F := fun b => b = gL) (Below.refl _ _).drew) (fun b _ h => h)).setRow rfl _, ?_⟩, by simp [intOf]; omega⟩
            rw [Hstep.out, restStep, if_neg ht, if_pos Hb.out, Nat.mul_comm 64 q.1]
            exact setRow_heap W4.drew gL _ _ 65 (0, 0) L6
    · obtain rfl : i = s.Q.length := by omega
      have d4' := d4
      obtain ⟨c0, c1, c2, c3, c4, c5⟩ := six d4
      have k4 : Keeps F W wr := hKW.trans hk (fun b _ e => by rw [e]; exact a1)
      have m4 : CacheAt wr gM s.Q.length s.C := b6.kept hk.size (hk.block gM hgM (b6.ne b5))
      obtain ⟨W5, hrun, m5, hg5⟩ := run_clear_map m4 0
      have nd : gM ≠ d := m4.ne d4
      have nL : gM ≠ gL := m4.ne hL
      have d5 := (hg5.block d (blk_lt d4) (fun e => nd (by injection e with e; exact e.symm))).trans d4
      have L5 := (hg5.block gL (blk_lt hL) (fun e => nL (by injection e with e; exact e.symm))).trans hL
      have k5 : Keeps F W W5 := k4.trans (F := F) (G := F) ⟨hg5.os, hg5.tape, hg5.output, hg5.size, fun b hb hf => hg5.block b hb (fun e => hf (by injection e with e; rw [e]; exact a2))⟩ (fun b _ h => h)
      have hc5 := clear_any W5 d _ _ _ _ _ _ d5
      have d6 := heap_setCell_same W5 d 2 _ 58 (.slice none 0 0) d5
      obtain ⟨e0, e1, e2, e3, e4, e5⟩ := six d5
      obtain ⟨x0, x1, x2, x3, x4, x5⟩ := six d6
      have f3 := frozen_blk d6 3
      have f5 := frozen_blk d6 5
      have hfin := restTo_ok ⟨stay, torn, cut, head⟩ h0.len h0.bytes h0.queue s.Q.length (Nat.le_refl _)
      have hac := h0.acts
      have hnn := h0.n
      clear hm b4 b5 b6 b7 bf hQs h h0 hg5 hk k4 m4 hKW
      go_wp2_with (refine list_runs (by rfl) (runs_clear rfl rfl hrun) ?_)
      refine hc5.mono ?_
      rintro e W6 ⟨rfl, rfl⟩
      go_wp2_with fail
      go_end0
      have hsz : W5.heap.size ≤ (((W5.setCell ⟨d, 2, none⟩ (.slice none 0 0)).setCell ⟨d, 3, none⟩ (.int .i64 (-1))).setCell ⟨d, 5, none⟩ (.bool false)).heap.size := by simp
      have hot : ∀ b, b ≠ d → (((W5.setCell ⟨d, 2, none⟩ (.slice none 0 0)).setCell ⟨d, 3, none⟩ (.int .i64 (-1))).setCell ⟨d, 5, none⟩ (.bool false)).heap[b]? = W5.heap[b]? := fun b hb => (heap_set2 _ _ _ _ _ hb).trans ((heap_set2 _ _ _ _ _ hb).trans (heap_set2 _ _ _ _ _ hb))
      refine ⟨rfl, ((k5.set h2 2 _).set h2 3 _).set h2 5 _, ⟨hnn, hfin.1, hfin.2, fun k x hx => (by cases hx), fun q hq => absurd hq List.not_mem_nil, Nat.zero_le _, ⟨show (-1 : Int) ≤ -1 by decide, show (-1 : Int) ≤ 9223372036854775807 by decide⟩, hac⟩,
        fun b hb => Nat.lt_of_lt_of_le (hFW b hb) (Nat.le_trans k5.size hsz), h2, gL, gM, .slice none 0 0, a1, a2, fun k hk => (by simp [Value.ownBlock] at hk), ?_, (hot gL (fun e => hdL e.symm)).trans L5, m5.kept hsz (hot gM nd), World.ownsRow_nil _ _ _ _⟩
      exact heap_setCell_same _ d 5 _ 58 _ (heap_setCell_same _ d 3 _ 58 _ d6)
end Go.Proofs.Ytpllifppjlakpaa.Dk
