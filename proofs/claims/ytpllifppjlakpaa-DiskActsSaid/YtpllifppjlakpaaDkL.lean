/-
  disk: sectors side by side; Flush.
-/
import Derived.Test.YtpllifppjlakpaaDkG
namespace Go.Proofs.Ytpllifppjlakpaa.Dk
open Go.RowKit Go.Shelf Go.Proofs.Ytpllifppjlakpaa
attribute [local go_sem] Oper.semAt_some
set_option linter.unusedVariables false
set_option linter.unusedSimpArgs false
def secs (n : Nat) (f : Nat → List Int) : List Int := (List.range n).flatMap f
theorem secs_succ (n : Nat) (f : Nat → List Int) : secs (n + 1) f = secs n f ++ f n := by simp [secs, List.range_succ]
theorem secs_length {f : Nat → List Int} : ∀ n, (∀ i, i < n → (f i).length = 64) → (secs n f).length = 64 * n
  | 0, _ => rfl
  | n + 1, h => by rw [secs_succ, List.length_append, secs_length n (fun i hi => h i (by omega)), h n (by omega)]; omega
theorem secs_congr {f g : Nat → List Int} : ∀ n, (∀ i, i < n → f i = g i) → secs n f = secs n g
  | 0, _ => rfl
  | n + 1, h => by rw [secs_succ, secs_succ, secs_congr n (fun i hi => h i (by omega)), h n (by omega)]
theorem secs_splice {f : Nat → List Int} {x : List Int} (hx : x.length = 64) : ∀ n, (∀ i, i < n → (f i).length = 64) → ∀ k, k < n → splice (secs n f) (64 * k) x = secs n (fun i => if i = k then x else f i)
  | 0, _, k, hk => absurd hk (Nat.not_lt_zero k)
  | n + 1, h, k, hk => by
    have hl := secs_length n (fun i hi => h i (by omega))
    have hn := h n (by omega)
    rw [secs_succ, secs_succ]
    by_cases hkn : k = n
    · subst hkn
      rw [if_pos rfl, secs_congr k (g := f) (fun i hi => if_neg (by omega))]
      unfold splice
      rw [List.take_append_of_le_length (by omega), List.take_of_length_le (by omega), List.drop_eq_nil_of_le (by rw [List.length_append]; omega), List.append_nil]
    · rw [if_neg (by omega), ← secs_splice hx n (fun i hi => h i (by omega)) k (by omega)]
      unfold splice
      rw [List.take_append_of_le_length (by omega), List.drop_append_of_le_length (by omega)]
      simp only [List.append_assoc]
theorem secOf_secs {f : Nat → List Int} : ∀ n, (∀ i, i < n → (f i).length = 64) → ∀ k, k < n → secOf (secs n f) k = f k
  | 0, _, k, hk => absurd hk (Nat.not_lt_zero k)
  | n + 1, h, k, hk => by
    have hl := secs_length n (fun i hi => h i (by omega))
    have hn := h n (by omega)
    rw [secs_succ]
    by_cases hkn : k = n
    · subst hkn
      unfold secOf
      rw [← hl, List.drop_left, List.take_of_length_le (by omega)]
    · rw [← secOf_secs n (fun i hi => h i (by omega)) k (by omega)]
      unfold secOf
      rw [List.drop_append_of_le_length (by omega), List.take_append_of_le_length (by rw [List.length_drop]; omega)]
theorem take_secs (L : List Int) : ∀ n, 64 * n ≤ L.length → secs n (secOf L) = L.take (64 * n)
  | 0, _ => by simp [secs]
  | n + 1, h => by
    rw [secs_succ, take_secs L n (by omega)]
    unfold secOf
    rw [show 64 * (n + 1) = 64 * n + 64 by omega, List.take_add]
theorem secs_secOf {L : List Int} {n : Nat} (h : L.length = 64 * n) : secs n (secOf L) = L := by
  rw [take_secs L n (by omega), List.take_of_length_le (by omega)]
theorem secs_bytes {f : Nat → List Int} {n : Nat} (h : ∀ i, i < n → isBytes (f i)) : isBytes (secs n f) := by
  intro x hx
  obtain ⟨i, hi, hxi⟩ := List.mem_flatMap.1 hx
  exact h i (List.mem_range.1 hi) x hxi
/-- What lasts when the cache is written out. -/
def flushL (s : Dk) : List Int := secs s.n (fun i => (s.C (i : Int)).getD (secOf s.L i))
def flushDk (s : Dk) : Dk := { actDk s with L := flushL s, C := fun _ => none, Q := [] }
/-- What lasts while it is being written out. -/
def midL (s : Dk) (left : Lit → Bool) : List Int := secs s.n (fun i => if left (.int .i64 (i : Int)) = true then secOf s.L i else (s.C (i : Int)).getD (secOf s.L i))
theorem cache_sec {s : Dk} (h : DkOk s) {i : Nat} (hi : i < s.n) : isSec ((s.C (i : Int)).getD (secOf s.L i)) := by
  cases hc : s.C (i : Int) with
  | none => exact ⟨secOf_length h.len hi, secOf_bytes h.bytes i⟩
  | some x => exact (h.cache _ x hc).2.2
theorem mid_sec {s : Dk} (h : DkOk s) (left : Lit → Bool) {i : Nat} (hi : i < s.n) : isSec (if left (.int .i64 (i : Int)) = true then secOf s.L i else (s.C (i : Int)).getD (secOf s.L i)) := by
  split
  · exact ⟨secOf_length h.len hi, secOf_bytes h.bytes i⟩
  · exact cache_sec h hi
theorem mid_start {s : Dk} (h : DkOk s) (left : Lit → Bool) (hl : ∀ i : Nat, i < s.n → left (.int .i64 (i : Int)) = (s.C (i : Int)).isSome) : midL s left = s.L := by
  unfold midL
  rw [secs_congr s.n (g := secOf s.L) (fun i hi => ?_), secs_secOf h.len]
  rw [hl i hi]
  cases hc : s.C (i : Int) <;> rfl
theorem mid_end {s : Dk} (left : Lit → Bool) (hl : ∀ kl, left kl = false) : midL s left = flushL s := by
  unfold midL flushL
  exact secs_congr s.n (fun i hi => by rw [hl]; rfl)
theorem same_int (a b : Int) : (Lit.int .i64 a).sameKey (.int .i64 b) = decide (a = b) := by
  by_cases h : a = b
  · subst h
    rw [decide_eq_true rfl]
    exact WideAt.sameKey_self (by trivial)
  · rw [decide_eq_false h]
    cases hs : (Lit.int .i64 a).sameKey (.int .i64 b)
    · rfl
    · exact absurd (by have := WideAt.sameKey_eq hs; injection this) h
theorem mid_step {s : Dk} (h : DkOk s) (left : Lit → Bool) (k : Nat) (hk : k < s.n) (x : List Int) (hx : s.C (k : Int) = some x) : splice (midL s left) (64 * k) x = midL s (fun z => left z && !z.sameKey (.int .i64 (k : Int))) := by
  unfold midL
  rw [secs_splice (h.cache _ x hx).2.2.1 s.n (fun i hi => (mid_sec h left hi).1) k hk]
  refine secs_congr s.n (fun i hi => ?_)
  show _ = if (left (.int .i64 (i : Int)) && !(Lit.int .i64 (i : Int)).sameKey (.int .i64 (k : Int))) = true then _ else _
  rw [same_int]
  by_cases hik : i = k
  · subst hik
    rw [if_pos rfl, decide_eq_true rfl, if_neg (by simp), hx]
    rfl
  · rw [if_neg hik, decide_eq_false (by omega)]
    simp
theorem agg_ints_inj {x y : List Int} (h : Value.agg (ints .u8 x) = .agg (ints .u8 y)) : x = y := by
  injection h with h
  exact ints_inj h
set_option maxHeartbeats 2000000 in
theorem flush_any {F : Nat → Prop} {W : World} {d : Nat} {s : Dk} (h : DiskAt F W d s) (hoff : s.off = false) (harm : s.armed ≠ 0) :
    Calls Try.prog 13 #[.pointer (some ⟨d, 0, none⟩)] W fun e W' => e = .returned (.int .i64 0) ∧ Keeps F W W' ∧ DiskAt F W' d (flushDk s) := by
  have hu := up_any h
  rw [hoff] at hu
  have hact := act_any h
  rw [decide_eq_true harm] at hact
  have hfl : flushL (actDk s) = flushL s := by unfold flushL; rw [actDk_C, actDk_n, actDk_L]
  have hfd : flushDk s = { actDk s with L := flushL (actDk s), C := fun _ => none, Q := [] } := by unfold flushDk; rw [hfl]
  rw [hfd]
  generalize actDk s = t at hact ⊢
  clear hfl hfd h hoff harm
  go_enter Try.func13, Try.ntmps13
  go_wp2_with fail
  refine hu.mono ?_
  rintro e W' ⟨rfl, rfl⟩
  go_wp2_with fail
  refine hact.mono ?_
  rintro e W1 ⟨rfl, hD1, hK1⟩
  clear hact hu
  obtain ⟨h0, h1, h2, gL, gM, vQ, a1, a2, a3, a4, a5, a6, a7⟩ := id hD1
  obtain ⟨c0, c1, c2, c3, c4, c5⟩ := six a4
  have nM := a6.ne a5
  have nMd := a6.ne a4
  have ndL : d ≠ gL := fun e => by subst e; exact absurd (blk_type a4 a5) (by decide)
  obtain ⟨D, hown, hat⟩ := a6
  have hhas : ∀ i : Nat, i < t.n → Maps.has D (.int .i64 (i : Int)) = (t.C (i : Int)).isSome := fun i hi => has_of (hat (i : Int) (int_wf (by omega) (by have := h0.n; omega)))
  go_wp2_with (at_range; refine wpList_range_own _ rfl (.tmp 16) 53 rfl 3 65 key3 Try.underlying53 Rsec gM t.Q.length D rfl hown ?_; intro W2 hrg2 hg2 hs2)
  go_frame
  have b5 := (hg2.block gL (blk_lt a5) (by simp)).trans a5
  have hK2 : Keeps (fun b => b = gL) W1 W2 := ⟨hg2.os, hg2.tape, hg2.output, hg2.size, fun b hb _ => hg2.block b hb (by simp)⟩
  have hrL : W1.heap.size ≠ gL := fun e => by have := blk_lt a5; omega
  have hr0 : W1.heap.size ≤ W1.heap.size := Nat.le_refl _
  have hMlt := h1 gM a2
  clear hown c0 c1 c2 c3 c4 c5 hg2 hs2 a7 a3
  generalize hrB : W1.heap.size = rB at hrg2 hrL hr0 ⊢
  go_loopw [] (fun wr => ∃ left cnt, wr.ranges Try.prog 3 Rsec gM rB t.Q.length D left cnt ∧ Keeps (fun b => b = gL) W1 wr ∧ wr.heap[gL]? = some (.cells (ints .u8 (midL t left)) 65 (0, 0))) (fun wr => wr.rangeLeft gM rB)
  case atStart => exact ⟨_, _, hrg2, hK2, by rw [mid_start h0 _ hhas]; exact b5⟩
  case round =>
    obtain ⟨left, cnt, hrg, hk, hL⟩ := hrel
    go_wp2_with (at_next; refine wpList_next_ranges _ rfl (.tmp 17) rfl 3 key3 Rsec (fun x : Int => Value.int .i64 x) (fun c : List Int => Value.agg (ints .u8 c)) (fun key kl hkey => by obtain ⟨x, hx, _⟩ := Maps.keyOf_int_inv Try.underlying3 hkey; exact ⟨x, hx⟩) (fun v y hv => by obtain ⟨x, hx, _⟩ := Rsec_inv hv; exact ⟨x, hx⟩) gM rB t.Q.length D left cnt rfl hrg ?_ ?_)
    · intro hc0 hl0
      have m4 : CacheAt wr gM t.Q.length t.C := ⟨D, hrg.owns, hat⟩
      rw [mid_end left hl0] at hL
      have d4 := (hk.block d (blk_lt a4) ndL).trans a4
      have k4 : Keeps F W wr := hK1.trans hk (fun b _ e => by rw [e]; exact a1)
      obtain ⟨W5, hrun, m5, hg5⟩ := run_clear_map m4 0
      have d5 := (hg5.block d (blk_lt d4) (fun e => nMd (by injection e with e; exact e.symm))).trans d4
      have L5 := (hg5.block gL (blk_lt hL) (fun e => nM (by injection e with e; exact e.symm))).trans hL
      have k5 : Keeps F W W5 := k4.trans (F := F) (G := F) ⟨hg5.os, hg5.tape, hg5.output, hg5.size, fun b hb hf => hg5.block b hb (fun e => hf (by injection e with e; rw [e]; exact a2))⟩ (fun b _ h => h)
      have hc5 := clear_any W5 d _ _ _ _ _ _ d5
      have d6 := heap_setCell_same W5 d 2 _ 58 (.slice none 0 0) d5
      obtain ⟨c0, c1, c2, c3, c4, c5⟩ := six d4
      have hsec : ∀ i, i < t.n → isSec ((t.C (i : Int)).getD (secOf t.L i)) := fun i hi => cache_sec h0 hi
      have hac := h0.acts
      have har := h0.armed
      have hnn := h0.n
      have hW1 : ∀ b, F b → b < W5.heap.size := fun b hb => Nat.lt_of_lt_of_le (h1 b hb) (Nat.le_trans hk.size hg5.size)
      clear a4 a5 b5 hat hhas hrg hrg2 hk hK2 hD1 hg5 k4 m4 h0
      go_wp2_with (refine list_runs (by rfl) (runs_clear rfl rfl hrun) ?_)
      refine hc5.mono ?_
      rintro e W6 ⟨rfl, rfl⟩
      go_wp2_with fail
      go_ret
      have hsz : W5.heap.size ≤ (W5.setCell ⟨d, 2, none⟩ (.slice none 0 0)).heap.size := by simp
      have hot : ∀ b, b ≠ d → (W5.setCell ⟨d, 2, none⟩ (.slice none 0 0)).heap[b]? = W5.heap[b]? := fun b hb => heap_set2 _ _ _ _ _ hb
      exact ⟨rfl, k5.set h2 2 _, ⟨hnn, secs_length t.n (fun i hi => (hsec i hi).1), secs_bytes (fun i hi => (hsec i hi).2), fun k x hx => (by cases hx), fun q hq => absurd hq List.not_mem_nil, Nat.zero_le _, har, hac⟩,
        fun b hb => Nat.lt_of_lt_of_le (hW1 b hb) hsz, h2, gL, gM, .slice none 0 0, a1, a2, fun k hk => (by simp [Value.ownBlock] at hk), d6, (hot gL (fun e => ndL e.symm)).trans L5, m5.kept hsz (hot gM nMd), World.ownsRow_nil _ _ _ _⟩
    · intro x c kl y pl w' cnt' hkey hlk hv hatk hrg1 hlt hg1 hs1 hen
      obtain ⟨x', ex, rfl, hwx⟩ := Maps.keyOf_int_inv Try.underlying3 hkey
      injection ex with _ ex
      subst ex
      obtain ⟨xs, ec, hsec, ey⟩ := Rsec_inv hv
      have ec := agg_ints_inj ec
      subst ec
      have hC : t.C x = some c := by
        have e1 := hatk .nil
        have e2 := hat x hwx .nil
        rw [e1, show y = encS c from congrArg Prod.fst ey] at e2
        cases hc : t.C x with
        | none => rw [hc] at e2; cases e2
        | some z => rw [hc] at e2; rw [encS_inj e2]
      obtain ⟨hx0, hxn, -⟩ := h0.cache x c hC
      obtain ⟨k, rfl⟩ := Int.eq_ofNat_of_zero_le hx0
      have hkn : k < t.n := by omega
      have k1 : Keeps (fun b => b = gL) W1 w' := hk.trans (F := fun b => b = gL) (G := fun b => b = rB) ⟨hg1.os, hg1.tape, hg1.output, hg1.size, fun b hb hf => hg1.block b hb (fun e => hf (by injection e))⟩ (fun b hb e => by omega)
      have d4 := (k1.block d (blk_lt a4) ndL).trans a4
      have L4 := (hg1.block gL (blk_lt hL) (fun e => hrL (by injection e with e; exact e.symm))).trans hL
      have hmid : (midL t left).length = 64 * t.n := secs_length t.n (fun i hi => (mid_sec h0 left hi).1)
      have hstep := mid_step h0 left k hkn c hC
      have hn2 := h0.n
      have hgg : ∀ cs, w'.grownBy ((w'.alloc (.cells (ints .u8 c) 65)).drew.setRow gL cs) (some gL) := fun cs => ⟨rfl, rfl, rfl, by simp, fun b hb hne => (setRow_other _ gL b cs (fun e => hne (by rw [e]))).trans (Below.heap_alloc _ _ b hb)⟩
      have hrg2' : ∀ cs, ((w'.alloc (.cells (ints .u8 c) 65)).drew.setRow gL cs).ranges Try.prog 3 Rsec gM rB t.Q.length D (fun z => left z && !z.sameKey (.int .i64 (k : Int))) cnt' := fun cs => hrg1.kept (hgg cs) (fun e => nM (by injection e)) (fun e => hrL (by injection e))
      have hme : ∀ cs, ((w'.alloc (.cells (ints .u8 c) 65)).drew.setRow gL cs).rangeLeft gM rB < wr.rangeLeft gM rB := fun cs => by rw [(hrg2' cs).left_eq, hrg.left_eq]; exact hlt
      have hk9 : ∀ cs, Keeps (fun b => b = gL) W1 ((w'.alloc (.cells (ints .u8 c) 65)).drew.setRow gL cs) := fun cs => (k1.trans (F := fun b => b = gL) (Keeps.of_below (F := fun b => b = gL) (((Below.refl _ _).alloc (Nat.le_refl _) _).drew)) (fun b _ h => h)).setRow rfl cs
      have d5 := blk_alloc d4 (.cells (ints .u8 c) 65)
      have L5 := blk_alloc L4 (.cells (ints .u8 c) 65)
      have x5 := heap_alloc_last w' (.cells (ints .u8 c) 65)
      have hc5 := (six d5).1
      have hst := run_store_sec (W := (w'.alloc (.cells (ints .u8 c) 65)).drew) L5 (i := k) (by omega) hsec.1
      rw [hstep, Nat.mul_comm] at hst
      have L9 := fun cs => setRow_heap (w'.alloc (.cells (ints .u8 c) 65)).drew gL _ cs 65 (0, 0) L5
      clear a4 a5 b5 hat hhas hrg hrg2 hk hK2 hD1 hg1 hs1 hatk hv ey hrg1 hgg d4 L4 hL k1 hC h0
      go_wp2_with (refine wpL_store (by rfl) 65 (.tmp 4) (.tmp 22) rfl w'.heap.size (ints .u8 c) rfl rfl 65 _ (heap_alloc_last w' _) (size65 (by rw [ints_size, hsec.1])) (by rw [ints_size, hsec.1]; rfl) (ints_one _ _) ?_; rw [setRow_last _ _ _ _ _ rfl])
      have hld : (Instr.loadAt 65 (.pointer (some ⟨w'.heap.size, 0, none⟩))).run Try.prog (w'.alloc (.cells (ints .u8 c) 65)).drew = .ok (.agg (ints .u8 c)) (w'.alloc (.cells (ints .u8 c) 65)).drew := run_load_one x5 hsec.1
      refine wp_region_still_tail 7 (by kernel_rfl) (by kernel_rfl) ?_
      simp only [List.take_succ_cons, List.take_zero, List.drop_succ_cons, List.drop_zero]
      change wpStill _ _ (w'.alloc (.cells (ints .u8 c) 65)).drew _ _ _
      still_step
      still_step
      still_step
      still_step
      still_step
      refine wpStill_step (fun K hK => ?_)
      refine still_runs (by rfl) (runs_load rfl rfl hld) ?_
      refine hK _ ?_
      clear hK K
      try simp only [Act.put, List.getElem_toArray, List.getElem_cons_zero, List.getElem_cons_succ, List.setIfInBounds_toArray, List.set_cons_succ, List.set_cons_zero]
      still_step
      refine wpStill_nil ?_
      change wpList _ _ _ _ _ (w'.alloc (.cells (ints .u8 c) 65)).drew
      refine list_runs (by rfl) (runs_store rfl rfl rfl hst) ?_
      try simp only [Act.put, List.getElem_toArray, List.getElem_cons_zero, List.getElem_cons_succ, List.setIfInBounds_toArray, List.set_cons_succ, List.set_cons_zero]
      go_wp2_with fail
      exact ⟨⟨_, _, hrg2' _, hk9 _, L9 _⟩, hme _⟩
end Go.Proofs.Ytpllifppjlakpaa.Dk
