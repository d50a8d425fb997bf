/-
  disk: the reference's Write.
-/
import Derived.Test.YtpllifppjlakpaaDkU
namespace Go.Proofs.Ytpllifppjlakpaa.Dk
open Go.RowKit Go.Shelf Go.Proofs.Ytpllifppjlakpaa
attribute [local go_sem] Oper.semAt_some
set_option linter.unusedVariables false
set_option linter.unusedSimpArgs false
theorem act_ok {s : Dk} (h : DkOk s) : DkOk (actDk s) := by
  have ha := h.armed
  unfold actDk
  split
  · exact ⟨h.n, h.len, h.bytes, h.cache, h.queue, h.room, h.armed, h.acts⟩
  · exact ⟨h.n, h.len, h.bytes, h.cache, h.queue, h.room, ⟨by show -1 ≤ max (s.armed - 1) (-1); omega, by show max (s.armed - 1) (-1) ≤ _; omega⟩, ⟨by show -9223372036854775808 ≤ wrap64 (s.acts + 1); unfold wrap64; omega, by show wrap64 (s.acts + 1) ≤ _; unfold wrap64; omega⟩⟩
theorem writeDk_ok {s : Dk} (h : DkOk s) {k : Nat} (hk : k < s.n) {x : List Int} (hx : isSec x) (hQ : s.Q.length < 1954687338211) : DkOk (writeDk s k x) := by
  have h0 := act_ok h
  refine ⟨h0.n, h0.len, h0.bytes, fun j y hj => ?_, fun q hq => ?_, ?_, h0.armed, h0.acts⟩
  · have hj : (if j = (k : Int) then some x else s.C j) = some y := hj
    show 0 ≤ j ∧ j < ((actDk s).n : Nat) ∧ isSec y
    rw [actDk_n]
    by_cases hjk : j = (k : Int)
    · rw [if_pos hjk] at hj
      injection hj with hj
      subst hj; subst hjk
      exact ⟨by omega, by omega, hx⟩
    · rw [if_neg hjk] at hj
      exact h.cache j y hj
  · have hq : q ∈ s.Q ++ [(k, x)] := hq
    show q.1 < (actDk s).n ∧ isSec q.2
    rw [actDk_n]
    rcases List.mem_append.1 hq with hq | hq
    · exact h.queue q hq
    · obtain rfl := List.mem_singleton.1 hq
      exact ⟨hk, hx⟩
  · show (s.Q ++ [(k, x)]).length ≤ _
    rw [List.length_append]
    exact hQ
theorem info81 : (Try.prog.info? 81).map (fun i => (i.zero, i.size, i.bytes)) = some (some (.agg #[.int .i64 0, .slice none 0 0]), 2, 32) := by kernel_rfl
theorem run_build_pair (w : World) (a b : Value) : (Instr.buildSlice 72 1 #[(0, .agg #[a, b])]).run Try.prog w = .ok (.slice (some ⟨w.heap.size, 0, none⟩) 1 1) (w.alloc (.cells #[a, b] 81)) := by
  obtain ⟨i0, hi, hz0, hz1, hz2⟩ := info_parts info81
  refine run_buildSlice w 72 81 1 _ _ i0 _ Try.underlying72 hi hz0 (by rw [hz1]; decide) (by rw [hz1]; decide) ?_
  rw [hz1]
  exact fill_all _ _ rfl (by simp)
/-- append(nil, b...) of 64 bytes. -/
theorem run_copy_of {W : World} {B : Nat} {A : Option Addr} {c : Nat} {bs : List Int} (hb : BytesAt W B A 64 bs) (hx : isSec bs) (ty : TypeId) :
    ∃ g c1 w1, (Builtin.append_ #[22, 22] ty #[.slice none 0 0, .slice A 64 c]).run Try.prog W = .ok (.slice (some ⟨g, 0, none⟩) 64 c1) w1 ∧ W.heap.size ≤ g ∧ Sec5 w1 (g, c1) bs ∧ Below W.heap.size W w1 := by
  obtain ⟨i0, hi, hz0, hz1, hz2⟩ := info_parts infoU8
  obtain ⟨b, off, rfl, _, hc⟩ := hb.2.2 (by decide)
  obtain ⟨v', w', hrun, h2, h3, _, h5⟩ := run_append_own_at (P := Try.prog) W W.heap.size 22 ty 5 i0 (.int .u8 0) 1 1 Try.underlying22 hi hz0 hz1 hz2 rfl (by decide) (.slice none 0 0) 0 [] (World.ownsRow_nil _ _ _ _) ⟨b, off, none⟩ 64 c (bs.map (Value.int .u8)) (by simp [hx.1])
    (fun j u hj => by
      have hjm : j < 64 := by rw [← hx.1]; have := (List.getElem?_eq_some_iff.1 hj).1; simpa using this
      rw [Addr.add_mid, hc j hjm]
      rw [List.getElem?_map] at hj
      have hjc : j < bs.length := by rw [hx.1]; exact hjm
      rw [List.getElem?_eq_getElem hjc] at hj ⊢
      exact hj)
    (fun u hu => by simp at hu; obtain ⟨x, _, rfl⟩ := hu; rfl) (by simp only [maxLen]; omega) (by omega) (Nat.le_refl _)
  rw [Nat.zero_add, List.nil_append] at h2
  have ho : OwnBytes w' W.heap.size v' bs := by
    unfold OwnBytes
    rw [hx.1]
    exact h2
  obtain ⟨A', c', rfl⟩ := ho.form
  rw [hx.1] at ho hrun
  obtain ⟨g, rfl, hg, hs⟩ := sec5_own ho hx
  exact ⟨g, c', w', hrun, hg, hs, h3.os, h3.tape, h3.output, h3.size, fun k hk => h3.block k hk (fun e => by cases e)⟩
set_option maxHeartbeats 4000000 in
theorem rwrite_any {G : Nat → Prop} {W : World} {d : Nat} {s : Dk} (h : RefAt G W d s) (hoff : s.off = false) (harm : s.armed ≠ 0) (hQ : s.Q.length < 1954687338211) (k : Nat) (hk : k < s.n) (A : Option Addr) (c : Nat) (bs : List Int) (hb : BytesAt W W.heap.size A 64 bs) (hnA : ∀ b off, A = some ⟨b, off, none⟩ → ¬ G b) :
    Calls Try.prog 32 #[.pointer (some ⟨d, 0, none⟩), .int .i64 k, .slice A 64 c] W fun e W' => e = .returned (.int .i64 0) ∧ Keeps G W W' ∧ ∃ G', Grows G G' W.heap.size ∧ RefAt G' W' d (writeDk s k bs) := by
  have hhas := has_any h (k : Int)
  rw [decide_eq_true ⟨by omega, by omega⟩] at hhas
  have hact := ract_any h
  rw [if_neg harm] at hact
  have hokW := writeDk_ok h.1 hk ⟨hb.1, hb.2.1⟩ hQ
  obtain ⟨h0, -, -, vS0, vW0, hs0, ws0, hd0, -⟩ := id h
  obtain ⟨-, -, -, c3, -⟩ := five hd0
  rw [hoff] at c3
  obtain ⟨b, off, rfl, hbB, hcell0⟩ := hb.2.2 (by decide)
  have hsec : isSec bs := ⟨hb.1, hb.2.1⟩
  clear h0 hd0
  go_enter Try.func32, Try.ntmps32
  go_wp2_with fail
  refine hhas.mono ?_
  rintro e W' ⟨rfl, rfl⟩
  go_wp2_with fail
  refine hact.mono ?_
  rintro e W1 ⟨rfl, hR1, hK1⟩
  have hb1 : BytesAt W1.drew W1.drew.heap.size (some ⟨b, off, none⟩) 64 bs := ⟨hb.1, hb.2.1, fun _ => ⟨b, off, rfl, Nat.lt_of_lt_of_le hbB hK1.size, fun i hi => (World.cell?_of_block (a := ⟨b, off + i, none⟩) (hK1.block b hbB (hnA b off rfl))).trans (hcell0 i hi)⟩⟩
  obtain ⟨g, c1, w1, hrun1, hg1, hsec1, hB1⟩ := run_copy_of (c := c) hb1 hsec 22
  obtain ⟨h0, h1, h2, vS, vW, hs, ws, hd, hi⟩ := id hR1
  obtain ⟨i0, hi0, hz0, hz1, hz2⟩ := info_parts info81
  have hdw : w1.heap[d]? = _ := (hB1.block d (blk_lt hd)).trans hd
  have hwr1 : w1.ownsRow 0 81 2 vW (actDk s).Q.length (ws.flatMap wval) := ownsRow_same hi.wrow (fun k hk hl => hB1.block k hl)
  have hrl : (actDk s).Q.length < 1954687338211 := by rw [actDk_Q]; exact hQ
  obtain ⟨vW', w3, hrun2, hown2, hgrow2, -, hblk2⟩ := run_append_own_at (P := Try.prog) (w1.alloc (.cells #[.int .i64 (k : Int), .slice (some ⟨g, 0, none⟩) 64 c1] 81)) 0 72 72 81 i0 _ 2 32 Try.underlying72 hi0 hz0 hz1 hz2 rfl (by decide) vW _ _ (hwr1.alloc _) ⟨w1.heap.size, 0, none⟩ 1 1 [.int .i64 (k : Int), .slice (some ⟨g, 0, none⟩) 64 c1] rfl
    (fun j u hj => by rw [Addr.add_mid, Nat.zero_add, cell_of_row _ _ j _ _ _ (heap_alloc_last w1 _)]; simpa using hj) (fun u hu => by simp at hu; rcases hu with rfl | rfl <;> rfl) (by simp only [maxLen]; omega) (by omega) (Nat.zero_le _)
  obtain ⟨Ax, cx, rfl, -⟩ := slice_form hown2
  have hneW : some d ≠ vW.ownBlock := fun e => by
    obtain ⟨cl, hh⟩ := ownsRow_type hi.wrow e.symm
    exact absurd (blk_type hd hh) (by decide)
  have hd3 : w3.heap[d]? = _ := (hgrow2.block d (Nat.lt_of_lt_of_le (blk_lt hdw) (by simp)) hneW).trans (blk_alloc hdw _)
  have f3 := frozen_blk hd3 1
  have c31 := (five hd3).2.1
  have cc0 : W1.drew.cell? ⟨d, 1, none⟩ = some vW := (five hd).2.1
  have cc1 : w1.cell? ⟨d, 1, none⟩ = some vW := (five hdw).2.1
  have cc2 : (w1.alloc (.cells #[.int .i64 (k : Int), .slice (some ⟨g, 0, none⟩) 64 c1] 81)).cell? ⟨d, 1, none⟩ = some vW := (five (blk_alloc hdw _)).2.1
  have fin : Keeps G W (w3.setCell ⟨d, 1, none⟩ (.slice Ax ((actDk s).Q.length + 1) cx)) ∧ ∃ G', Grows G G' W.heap.size ∧ RefAt G' (w3.setCell ⟨d, 1, none⟩ (.slice Ax ((actDk s).Q.length + 1) cx)) d (writeDk s k bs) := by
    have hsz1 : W1.heap.size ≤ w1.heap.size := hB1.size
    have hsz2 : w1.heap.size + 1 ≤ w3.heap.size := by have := hgrow2.size; simpa using this
    have hsz3 : w3.heap.size ≤ (w3.setCell ⟨d, 1, none⟩ (.slice Ax ((actDk s).Q.length + 1) cx)).heap.size := by simp
    have ks : ∀ b, b < W1.heap.size → b ≠ d → vW.ownBlock ≠ some b → (w3.setCell ⟨d, 1, none⟩ (.slice Ax ((actDk s).Q.length + 1) cx)).heap[b]? = W1.heap[b]? := fun b hb hd hv =>
      (heap_set2 _ _ _ _ _ hd).trans ((hgrow2.block b (by simp; omega) (fun e => hv e.symm)).trans ((Below.heap_alloc _ _ _ (by omega)).trans (hB1.block b hb)))
    have kg : ∀ b, w1.heap[b]? ≠ none → b ≠ d → vW.ownBlock ≠ some b → (w3.setCell ⟨d, 1, none⟩ (.slice Ax ((actDk s).Q.length + 1) cx)).heap[b]? = w1.heap[b]? := fun b hb hd hv => by
      have hbl : b < w1.heap.size := by
        rcases Nat.lt_or_ge b w1.heap.size with h | h
        · exact h
        · exact absurd (Array.getElem?_eq_none h) hb
      exact (heap_set2 _ _ _ _ _ hd).trans ((hgrow2.block b (by simp; omega) (fun e => hv e.symm)).trans (Below.heap_alloc _ _ _ hbl))
    have nv : ∀ b cs t, W1.heap[b]? = some (.cells cs t (0, 0)) → t ≠ 81 → vW.ownBlock ≠ some b := fun b cs t hb ht e => by
      obtain ⟨cl, hh⟩ := ownsRow_type hi.wrow e
      exact ht (blk_type hb hh)
    have s5 : ∀ h x, Sec5 W1 h x → Sec5 (w3.setCell ⟨d, 1, none⟩ (.slice Ax ((actDk s).Q.length + 1) cx)) h x := fun h x hh => by
      have hl := hh.lt
      have hne := hh.ne hd (by decide)
      obtain ⟨q1, q2, cells, q3, q4⟩ := hh
      exact ⟨q1, q2, cells, (ks _ hl hne (nv _ _ _ q3 (by decide))).trans q3, q4⟩
    refine ⟨hK1.trans (F := G) (G := G) ⟨hgrow2.os.trans hB1.os, hgrow2.tape.trans hB1.tape, hgrow2.output.trans hB1.output, by omega, fun b hb hf => ks b hb (fun e => hf (by rw [e]; exact h2)) (fun e => hf (hi.gW b e))⟩ (fun b _ h => h), fun b => G b ∨ b = g ∨ (Value.slice Ax ((actDk s).Q.length + 1) cx).ownBlock = some b, fun b hb => ?_, hokW, fun b hb => ?_, .inl h2, vS, .slice Ax ((actDk s).Q.length + 1) cx, hs, ws ++ [(k, (g, c1))], heap_setCell_same w3 d 1 _ 74 _ hd3, ?_⟩
    · rcases hb with hb | rfl | hb
      · exact .inl hb
      · exact .inr (Nat.le_trans hK1.size hg1)
      · rcases hblk2 with e | e
        · exact .inl (hi.gW b (e ▸ hb))
        · rw [e] at hb
          injection hb with hb
          exact .inr (by rw [← hb]; have := hK1.size; simp; omega)
    · rcases hb with hb | rfl | hb
      · have := h1 b hb; omega
      · have := hsec1.lt; simp at this; omega
      · have := (hown2.lt b hb).2; omega
    · have hQe : (writeDk s k bs).Q = (actDk s).Q ++ [(k, bs)] := by rw [actDk_Q]; rfl
      have hQl : (writeDk s k bs).Q.length = (actDk s).Q.length + 1 := by rw [hQe, List.length_append]; rfl
      refine ⟨fun b hb => .inl (hi.gS b hb), fun b hb => .inr (.inr hb), ownsRow_same hi.row (fun b hb hl => ?_), hi.hlen, fun j hj => ⟨s5 _ _ (hi.secs j hj).1, .inl (hi.secs j hj).2⟩, ?_, ?_, fun j hj hj2 => ?_⟩
      · obtain ⟨cl, hh⟩ := ownsRow_type hi.row hb
        exact ks b hl (fun e => by subst e; exact absurd (blk_type hd hh) (by decide)) (nv b _ _ hh (by decide))
      · rw [hQl, List.flatMap_append]
        have e : List.flatMap wval [(k, (g, c1))] = [.int .i64 (k : Int), .slice (some ⟨g, 0, none⟩) 64 c1] := rfl
        rw [e]
        exact ownsRow_same hown2 (fun b hb hl => heap_set2 _ _ _ _ _ (fun e => by
          subst e
          obtain ⟨cl, hh⟩ := ownsRow_type hown2 hb
          exact absurd (blk_type hd3 hh) (by decide)))
      · rw [hQl, List.length_append, hi.wlen]; rfl
      · rw [List.getElem_of_eq hQe hj2]
        by_cases hjl : j < ws.length
        · have hjq : j < (actDk s).Q.length := by rw [← hi.wlen]; exact hjl
          rw [List.getElem_append_left hjl, List.getElem_append_left hjq]
          obtain ⟨q1, q2, q3⟩ := hi.wsecs j hjl hjq
          exact ⟨q1, s5 _ _ q2, .inl q3⟩
        · rw [List.length_append] at hj
          have hje : j = ws.length := by simp at hj; omega
          subst hje
          have hwl := hi.wlen
          rw [List.getElem_append_right (Nat.le_refl _), List.getElem_append_right (by omega)]
          have e0 : ws.length - (actDk s).Q.length = 0 := by omega
          simp only [Nat.sub_self, e0, List.getElem_cons_zero]
          refine ⟨trivial, ?_, .inr (.inl trivial)⟩
          obtain ⟨q1, q2, cells, q3, q4⟩ := hsec1
          exact ⟨q1, q2, cells, (kg g (by simp only at q3; rw [q3]; exact fun e => by cases e) (fun e => by subst e; exact absurd (blk_type hdw q3) (by decide)) (fun e => by
            obtain ⟨cl, hh⟩ := ownsRow_type hwr1 e
            exact absurd (blk_type q3 hh) (by decide))).trans q3, q4⟩
  have hld : ∀ w : World, w.cell? ⟨d, 1, none⟩ = some vW → (Instr.loadAt 72 (.pointer (some ⟨d, 1, none⟩))).run Try.prog w = .ok vW w := fun w hw => by
    go_simp
  clear hact hhas hokW hb hb1 hcell0 hwr1 hown2 hgrow2 hblk2 hd hdw hd3 hi hR1 hsec1 hB1 h0 h1 h2 h
  go_wp2_with fail
  refine wp_region_any (by kernel_rfl) ?_
  change wpAny _ _ _ _ _ _ _ W1.drew
  refine wpAny_take (i := 0) (v := ?_) rfl (by kernel_rfl) (by kernel_rfl) (by kernel_rfl) (fun _ _ _ h => h) (Or.inl ⟨by rfl, ?_⟩) ?_
  rotate_left 1
  · intro w
    go_simp
    try rfl
  try simp only [Act.put, List.getElem_toArray, List.getElem_cons_zero, List.getElem_cons_succ, List.setIfInBounds_toArray, List.set_cons_succ, List.set_cons_zero]
  refine wpAny_take (i := 1) (v := ?_) rfl (by kernel_rfl) (by kernel_rfl) (by kernel_rfl) (fun _ _ _ h => h) (Or.inl ⟨by rfl, ?_⟩) ?_
  rotate_left 1
  · intro w
    go_simp
    try rfl
  try simp only [Act.put, List.getElem_toArray, List.getElem_cons_zero, List.getElem_cons_succ, List.setIfInBounds_toArray, List.set_cons_succ, List.set_cons_zero]
  refine wpAny_take (i := 2) (v := ?_) rfl (by kernel_rfl) (by kernel_rfl) (by kernel_rfl) (fun _ _ _ h => h) (Or.inl ⟨by rfl, ?_⟩) ?_
  rotate_left 1
  · intro w
    go_simp
    try rfl
  try simp only [Act.put, List.getElem_toArray, List.getElem_cons_zero, List.getElem_cons_succ, List.setIfInBounds_toArray, List.set_cons_succ, List.set_cons_zero]
  refine wpAny_take (i := 3) (v := ?_) rfl (by kernel_rfl) (by kernel_rfl) (by kernel_rfl) (fun _ _ _ h => h) (Or.inl ⟨by rfl, ?_⟩) ?_
  rotate_left 1
  · intro w
    go_simp
    try rfl
  try simp only [Act.put, List.getElem_toArray, List.getElem_cons_zero, List.getElem_cons_succ, List.setIfInBounds_toArray, List.set_cons_succ, List.set_cons_zero]
  refine wpAny_take (i := 5) (v := ?_) rfl (by kernel_rfl) (by kernel_rfl) (by kernel_rfl) (fun _ _ _ h => h) (Or.inl ⟨by rfl, ?_⟩) ?_
  rotate_left 1
  · intro w
    go_simp
    try rfl
  try simp only [Act.put, List.getElem_toArray, List.getElem_cons_zero, List.getElem_cons_succ, List.setIfInBounds_toArray, List.set_cons_succ, List.set_cons_zero]
  refine wpAny_take (i := 6) (v := ?_) rfl (by kernel_rfl) (by kernel_rfl) (by kernel_rfl) (fun _ _ _ h => h) (Or.inl ⟨by rfl, ?_⟩) ?_
  rotate_left 1
  · intro w
    go_simp
    try rfl
  try simp only [Act.put, List.getElem_toArray, List.getElem_cons_zero, List.getElem_cons_succ, List.setIfInBounds_toArray, List.set_cons_succ, List.set_cons_zero]
  refine wpAny_ready (rs := [4, 7]) (by kernel_rfl) (by simp) ?_
  refine AllReady.cons rfl (fun K hK => ?_) (AllReady.cons rfl (fun K hK => ?_) AllReady.nil)
  · refine any_runs (by rfl) (runs_load rfl rfl (hld _ cc0)) ?_
    refine hK _ _ ?_
    clear hK K
    try simp only [Act.put, List.getElem_toArray, List.getElem_cons_zero, List.getElem_cons_succ, List.setIfInBounds_toArray, List.set_cons_succ, List.set_cons_zero]
    refine wpAny_ready (rs := [7]) (by kernel_rfl) (by simp) ?_
    refine AllReady.cons rfl (fun K hK => ?_) AllReady.nil
    refine any_runs (by rfl) (runs_append rfl rfl rfl hrun1) ?_
    refine hK _ _ ?_
    clear hK K
    try simp only [Act.put, List.getElem_toArray, List.getElem_cons_zero, List.getElem_cons_succ, List.setIfInBounds_toArray, List.set_cons_succ, List.set_cons_zero]
    refine wpAny_take (i := 8) (v := ?_) rfl (by kernel_rfl) (by kernel_rfl) (by kernel_rfl) (fun _ _ _ h => h) (Or.inl ⟨by rfl, ?_⟩) ?_
    rotate_left 1
    · intro w
      go_simp
      try rfl
    try simp only [Act.put, List.getElem_toArray, List.getElem_cons_zero, List.getElem_cons_succ, List.setIfInBounds_toArray, List.set_cons_succ, List.set_cons_zero]
    refine wpAny_ready (rs := [9]) (by kernel_rfl) (by simp) ?_
    refine AllReady.cons rfl (fun K hK => ?_) AllReady.nil
    refine any_runs (by rfl) (runs_buildSlice (ps := #[(0, .agg #[.int .i64 (k : Int), .slice (some ⟨g, 0, none⟩) 64 c1])]) rfl (by simp only [List.map_toArray, List.map_cons, List.map_nil]; rfl) (run_build_pair _ _ _)) ?_
    refine hK _ _ ?_
    clear hK K
    try simp only [Act.put, List.getElem_toArray, List.getElem_cons_zero, List.getElem_cons_succ, List.setIfInBounds_toArray, List.set_cons_succ, List.set_cons_zero]
    refine wpAny_ready (rs := [10]) (by kernel_rfl) (by simp) ?_
    refine AllReady.cons rfl (fun K hK => ?_) AllReady.nil
    refine any_runs (by rfl) (runs_append rfl rfl rfl hrun2) ?_
    refine hK _ _ ?_
    clear hK K
    try simp only [Act.put, List.getElem_toArray, List.getElem_cons_zero, List.getElem_cons_succ, List.setIfInBounds_toArray, List.set_cons_succ, List.set_cons_zero]
    refine wpAny_take (i := 11) (v := ?_) rfl (by kernel_rfl) (by kernel_rfl) (by kernel_rfl) (fun _ _ _ h => h) (Or.inl ⟨by rfl, ?_⟩) ?_
    rotate_left 1
    · intro w
      go_simp
      try rfl
    try simp only [Act.put, List.getElem_toArray, List.getElem_cons_zero, List.getElem_cons_succ, List.setIfInBounds_toArray, List.set_cons_succ, List.set_cons_zero]
    refine wpAny_take (i := 12) (v := ?_) rfl (by kernel_rfl) (by kernel_rfl) (by kernel_rfl) (fun _ _ _ h => h) (Or.inl ⟨by rfl, ?_⟩) ?_
    rotate_left 1
    · intro w
      go_simp
      try rfl
    try simp only [Act.put, List.getElem_toArray, List.getElem_cons_zero, List.getElem_cons_succ, List.setIfInBounds_toArray, List.set_cons_succ, List.set_cons_zero]
    refine wpAny_ready (rs := [13]) (by kernel_rfl) (by simp) ?_
    refine AllReady.cons rfl (fun K hK => ?_) AllReady.nil
    go_simp
    refine hK _ _ ?_
    clear hK K
    refine wpAny_done (by kernel_rfl) ?_ _
    go_wp2_with fail
    go_ret
    exact ⟨rfl, fin⟩
  · refine any_runs (by rfl) (runs_append rfl rfl rfl hrun1) ?_
    refine hK _ _ ?_
    clear hK K
    try simp only [Act.put, List.getElem_toArray, List.getElem_cons_zero, List.getElem_cons_succ, List.setIfInBounds_toArray, List.set_cons_succ, List.set_cons_zero]
    refine wpAny_take (i := 8) (v := ?_) rfl (by kernel_rfl) (by kernel_rfl) (by kernel_rfl) (fun _ _ _ h => h) (Or.inl ⟨by rfl, ?_⟩) ?_
    rotate_left 1
    · intro w
      go_simp
      try rfl
    try simp only [Act.put, List.getElem_toArray, List.getElem_cons_zero, List.getElem_cons_succ, List.setIfInBounds_toArray, List.set_cons_succ, List.set_cons_zero]
    refine wpAny_ready (rs := [4, 9]) (by kernel_rfl) (by simp) ?_
    refine AllReady.cons rfl (fun K hK => ?_) (AllReady.cons rfl (fun K hK => ?_) AllReady.nil)
    · refine any_runs (by rfl) (runs_load rfl rfl (hld _ cc1)) ?_
      refine hK _ _ ?_
      clear hK K
      try simp only [Act.put, List.getElem_toArray, List.getElem_cons_zero, List.getElem_cons_succ, List.setIfInBounds_toArray, List.set_cons_succ, List.set_cons_zero]
      refine wpAny_ready (rs := [9]) (by kernel_rfl) (by simp) ?_
      refine AllReady.cons rfl (fun K hK => ?_) AllReady.nil
      refine any_runs (by rfl) (runs_buildSlice (ps := #[(0, .agg #[.int .i64 (k : Int), .slice (some ⟨g, 0, none⟩) 64 c1])]) rfl (by simp only [List.map_toArray, List.map_cons, List.map_nil]; rfl) (run_build_pair _ _ _)) ?_
      refine hK _ _ ?_
      clear hK K
      try simp only [Act.put, List.getElem_toArray, List.getElem_cons_zero, List.getElem_cons_succ, List.setIfInBounds_toArray, List.set_cons_succ, List.set_cons_zero]
      refine wpAny_ready (rs := [10]) (by kernel_rfl) (by simp) ?_
      refine AllReady.cons rfl (fun K hK => ?_) AllReady.nil
      refine any_runs (by rfl) (runs_append rfl rfl rfl hrun2) ?_
      refine hK _ _ ?_
      clear hK K
      try simp only [Act.put, List.getElem_toArray, List.getElem_cons_zero, List.getElem_cons_succ, List.setIfInBounds_toArray, List.set_cons_succ, List.set_cons_zero]
      refine wpAny_take (i := 11) (v := ?_) rfl (by kernel_rfl) (by kernel_rfl) (by kernel_rfl) (fun _ _ _ h => h) (Or.inl ⟨by rfl, ?_⟩) ?_
      rotate_left 1
      · intro w
        go_simp
        try rfl
      try simp only [Act.put, List.getElem_toArray, List.getElem_cons_zero, List.getElem_cons_succ, List.setIfInBounds_toArray, List.set_cons_succ, List.set_cons_zero]
      refine wpAny_take (i := 12) (v := ?_) rfl (by kernel_rfl) (by kernel_rfl) (by kernel_rfl) (fun _ _ _ h => h) (Or.inl ⟨by rfl, ?_⟩) ?_
      rotate_left 1
      · intro w
        go_simp
        try rfl
      try simp only [Act.put, List.getElem_toArray, List.getElem_cons_zero, List.getElem_cons_succ, List.setIfInBounds_toArray, List.set_cons_succ, List.set_cons_zero]
      refine wpAny_ready (rs := [13]) (by kernel_rfl) (by simp) ?_
      refine AllReady.cons rfl (fun K hK => ?_) AllReady.nil
      go_simp
      refine hK _ _ ?_
      clear hK K
      refine wpAny_done (by kernel_rfl) ?_ _
      go_wp2_with fail
      go_ret
      exact ⟨rfl, fin⟩
    · refine any_runs (by rfl) (runs_buildSlice (ps := #[(0, .agg #[.int .i64 (k : Int), .slice (some ⟨g, 0, none⟩) 64 c1])]) rfl (by simp only [List.map_toArray, List.map_cons, List.map_nil]; rfl) (run_build_pair _ _ _)) ?_
      refine hK _ _ ?_
      clear hK K
      try simp only [Act.put, List.getElem_toArray, List.getElem_cons_zero, List.getElem_cons_succ, List.setIfInBounds_toArray, List.set_cons_succ, List.set_cons_zero]
      refine wpAny_ready (rs := [4]) (by kernel_rfl) (by simp) ?_
      refine AllReady.cons rfl (fun K hK => ?_) AllReady.nil
      refine any_runs (by rfl) (runs_load rfl rfl (hld _ cc2)) ?_
      refine hK _ _ ?_
      clear hK K
      try simp only [Act.put, List.getElem_toArray, List.getElem_cons_zero, List.getElem_cons_succ, List.setIfInBounds_toArray, List.set_cons_succ, List.set_cons_zero]
      refine wpAny_ready (rs := [10]) (by kernel_rfl) (by simp) ?_
      refine AllReady.cons rfl (fun K hK => ?_) AllReady.nil
      refine any_runs (by rfl) (runs_append rfl rfl rfl hrun2) ?_
      refine hK _ _ ?_
      clear hK K
      try simp only [Act.put, List.getElem_toArray, List.getElem_cons_zero, List.getElem_cons_succ, List.setIfInBounds_toArray, List.set_cons_succ, List.set_cons_zero]
      refine wpAny_take (i := 11) (v := ?_) rfl (by kernel_rfl) (by kernel_rfl) (by kernel_rfl) (fun _ _ _ h => h) (Or.inl ⟨by rfl, ?_⟩) ?_
      rotate_left 1
      · intro w
        go_simp
        try rfl
      try simp only [Act.put, List.getElem_toArray, List.getElem_cons_zero, List.getElem_cons_succ, List.setIfInBounds_toArray, List.set_cons_succ, List.set_cons_zero]
      refine wpAny_take (i := 12) (v := ?_) rfl (by kernel_rfl) (by kernel_rfl) (by kernel_rfl) (fun _ _ _ h => h) (Or.inl ⟨by rfl, ?_⟩) ?_
      rotate_left 1
      · intro w
        go_simp
        try rfl
      try simp only [Act.put, List.getElem_toArray, List.getElem_cons_zero, List.getElem_cons_succ, List.setIfInBounds_toArray, List.set_cons_succ, List.set_cons_zero]
      refine wpAny_ready (rs := [13]) (by kernel_rfl) (by simp) ?_
      refine AllReady.cons rfl (fun K hK => ?_) AllReady.nil
      go_simp
      refine hK _ _ ?_
      clear hK K
      refine wpAny_done (by kernel_rfl) ?_ _
      go_wp2_with fail
      go_ret
      exact ⟨rfl, fin⟩
end Go.Proofs.Ytpllifppjlakpaa.Dk
