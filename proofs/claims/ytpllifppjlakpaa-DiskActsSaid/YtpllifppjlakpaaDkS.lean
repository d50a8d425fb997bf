/-
  disk: DiskKeeps: the law's walk.
-/
import Derived.Test.YtpllifppjlakpaaDkQ
namespace Go.Proofs.Ytpllifppjlakpaa.Dk
open Go.RowKit Go.Shelf Go.Proofs.Ytpllifppjlakpaa
attribute [local go_sem] Oper.semAt_some
set_option linter.unusedVariables false
set_option linter.unusedSimpArgs false
theorem flush_free {s0 s : Dk} (h : Free s0 s) : flushTot s = (0, flushDk s) := by
  unfold flushTot
  rw [if_neg (by rw [h.off]; decide), if_neg (by have := h.armed; omega)]
theorem rest_flush (s : Dk) (f : FateV) : (restDk (flushDk s) f).L = flushL s ∧ (restDk (flushDk s) f).n = s.n ∧ (restDk (flushDk s) f).C = (fun _ => none) ∧ (restDk (flushDk s) f).Q = [] ∧ (restDk (flushDk s) f).off = false :=
  ⟨rfl, actDk_n s, rfl, rfl, rfl⟩
set_option maxHeartbeats 4000000 in
theorem keeps_law (W : World) (A : Option Addr) (m c : Nat) (bs : List Int) (hb : BytesAt W W.heap.size A m bs) (hmc : m ≤ c) (A' : Option Addr) (n c' : Nat) (l : List ActV) (hl : ActsAt W A' n l) (hnc : n ≤ c') (f : FateV) (hstay : 0 ≤ f.stay ∧ f.stay < 18446744073709551616) :
    Calls Try.prog 4 #[.slice A m c, .slice A' n c', f.val] W fun e W' => e = .returned (.bool true) ∧ Below W.heap.size W W' := by
  have hre := hl.reach
  have hlen := hl.len
  have hBB : Below W.heap.size W (W.alloc (.cells #[.int .u64 f.stay, .int .i64 f.torn, .int .i64 f.cut, .bool f.head] 30)) := (Below.refl _ _).alloc (Nat.le_refl _) _
  have hbf : (W.alloc (.cells #[.int .u64 f.stay, .int .i64 f.torn, .int .i64 f.cut, .bool f.head] 30)).heap[W.heap.size]? = some (.cells #[.int .u64 f.stay, .int .i64 f.torn, .int .i64 f.cut, .bool f.head] 30 (0, 0)) := heap_alloc_last W _
  have hb0 : BytesAt (W.alloc (.cells #[.int .u64 f.stay, .int .i64 f.torn, .int .i64 f.cut, .bool f.head] 30)) (W.alloc (.cells #[.int .u64 f.stay, .int .i64 f.torn, .int .i64 f.cut, .bool f.head] 30)).heap.size A m bs := (hb.below hBB).more hBB.size
  have hl0 := hl.below hBB
  go_enter Try.func4, Try.ntmps4
  unfold FateV.val
  go_wp2_with fail
  clear hb hl
  generalize W.alloc (.cells #[.int .u64 f.stay, .int .i64 f.torn, .int .i64 f.cut, .bool f.head] 30) = W0 at hBB hbf hb0 hl0 ⊢
  have hWW : W.heap.size ≤ W0.heap.size := hBB.size
  suffices hgo : ∀ W', Below W0.heap.size W0 W' → Below W.heap.size W W' by
    refine (awake_any _).mono ?_
    rintro e W1 ⟨rfl, hB1⟩
    by_cases hm : 3000 < m
    · go_wp2_with fail
      go_ret
      exact ⟨rfl, hgo _ hB1⟩
    · have hfew := few_any (hl0.below hB1) hnc
      go_wp2_with fail
      refine hfew.mono ?_
      rintro e W2 ⟨hB2, few, rfl⟩
      have hB2 := hB1.trans (hB2.mono hB1.size)
      cases few
      · go_wp2_with fail
        go_ret
        exact ⟨rfl, hgo _ hB2⟩
      · have hb2 : BytesAt W2 W2.heap.size A m bs := (hb0.below hB2).more hB2.size
        clear hfew hB1
        go_wp2_with fail
        refine (of_any hb2 hmc (by omega)).mono ?_
        rintro e W3 ⟨hB3, d, F, rfl, hF, x3⟩
        have hB3' := hB2.trans (hB3.mono hB2.size)
        have bx : ∀ b, F b → W0.heap.size ≤ b := fun b h => Nat.le_trans hB2.size (hF b h)
        clear hb2 hB2 hB3 hF
        have hce := hl0.cells
        have hok := hl0.ok
        go_wp2_with fail
        go_loopw [33] (fun v wr => ∃ i : Nat, i ≤ n ∧ v = .int .i64 i ∧ ∃ s F, Free (ofDk bs) s ∧ s.Q.length ≤ i ∧ DiskAt F wr d s ∧ (∀ b, F b → W0.heap.size ≤ b) ∧ Below W0.heap.size W0 wr) (fun v _ => n - (intOf v).toNat)
        case atStart => exact ⟨0, Nat.zero_le _, rfl, _, F, of_free bs, Nat.le_refl _, x3, bx, hB3'⟩
        case round =>
          clear x3 bx hB3'
          clear F
          obtain ⟨i, hi, rfl, s, F, hfree, hq, x, bx, hB⟩ := hrel
          by_cases hlt : i < n
          · obtain ⟨b, off, rfl, hbl, hrg⟩ := hce (by omega)
            have hr := range_below (hrg i (by omega)) hB hbl
            have ha := hok l[i] (List.getElem_mem (by omega))
            generalize l[i] = a at hr ha
            have h1 := cells_one a
            have xe := x.below ((Below.refl _ _).alloc (Nat.le_refl _) (.cells a.cells.toArray 32))
            have hx := heap_alloc_last wr (.cells a.cells.toArray 32)
            have hB6 := hB.alloc hB.size (.cells a.cells.toArray 32)
            have hwx := write_free x.1 hfree a.n a.bs ha.bytes.2.1
            have hqq : s.Q.length < 1954687338211 := by omega
            have hnx : a.m = 64 → ∀ b off, a.A = some ⟨b, off, none⟩ → ¬ F b := fun hm64 b off e hf => by
              obtain ⟨b', off', e', hlt', -⟩ := ha.bytes.2.2 (by omega)
              rw [e] at e'
              injection e' with e'
              injection e' with e' _ _
              have := bx b hf
              omega
            have hab := ha.bytes
            have han := ha.n
            obtain ⟨x0, x1, x2, -⟩ := act_in hx
            clear hrg hce hok x hB hl0 ha
            by_cases hdo : a.do_ = 0
            · have hdb : (a.do_ == 0) = true := beq_iff_eq.2 hdo
              go_wp2_with (first | (refine wpList_load_mid rfl 32 (.tmp 35) rfl b (off + i * 7) rfl _ _ hr Try.underlying32 rfl (size32 rfl) ?_) | (refine wpL_store (by rfl) 32 (.tmp 9) (.tmp 36) rfl wr.heap.size a.cells.toArray rfl rfl 32 _ (heap_alloc_last wr _) (size32 rfl) rfl (all_oneCell_toArray h1) ?_; rw [setRow_last _ _ _ _ _ rfl]))
              clear hr h1
              refine (write_all xe hqq a.n han a.A a.m a.c a.bs ((hab.below hB6).more hB6.size) hnx).mono ?_
              rintro e W7 ⟨rfl, k1, F', g1, x7⟩
              have bx7 := grow_base g1 bx hB6.size
              have hB7 := hB6.trans (k1.below bx hB6.size)
              clear xe k1 g1 hx x0 x1 x2
              go_wp2_with fail
              exact ⟨⟨i + 1, by omega, by go_num, _, F', hwx.1, by have := hwx.2; omega, x7, bx7, hB7⟩, by simp [intOf]; omega⟩
            · have hdb : (a.do_ == 0) = false := beq_eq_false_iff_ne.2 hdo
              go_wp2_with (first | (refine wpList_load_mid rfl 32 (.tmp 35) rfl b (off + i * 7) rfl _ _ hr Try.underlying32 rfl (size32 rfl) ?_) | (refine wpL_store (by rfl) 32 (.tmp 9) (.tmp 36) rfl wr.heap.size a.cells.toArray rfl rfl 32 _ (heap_alloc_last wr _) (size32 rfl) rfl (all_oneCell_toArray h1) ?_; rw [setRow_last _ _ _ _ _ rfl]))
              exact ⟨⟨i + 1, by omega, by go_num, _, F, hfree, by omega, xe, bx, hB6⟩, by simp [intOf]; omega⟩
          · obtain rfl : i = n := by omega
            clear hce hok hl0 hb0
            have hN := x.1.n
            have hfx := x.2.1
            generalize wr = V0 at x hB hfx ⊢
            go_wp2_with fail
            go_loopw [10, 11] (fun v10 v wr' => ∃ k : Nat, k ≤ s.n ∧ v = .int .i64 k ∧ ∃ bl, bl.length = k ∧ WasAt wr' V0.heap.size v10 bl (fun j => (s.C (j : Int)).getD (secOf s.L j)) ∧ Below V0.heap.size V0 wr') (fun _ v _ => s.n - (intOf v).toNat)
            case atStart => exact ⟨0, Nat.zero_le _, rfl, [], rfl, ⟨World.ownsRow_nil _ _ _ _, fun j hj => absurd hj (Nat.not_lt_zero j)⟩, Below.refl _ _⟩
            case round =>
              obtain ⟨k, hkn, rfl, bl, hbl, hwas, hb⟩ := hrel
              subst hbl
              have xr := x.below hb
              have hlr := len_any xr
              by_cases hklt : bl.length < s.n
              · have hdl : decide (((bl.length : Nat) : Int) < (s.n : Int)) = true := decide_eq_true (by omega)
                go_wp2_with fail
                refine hlr.mono ?_
                rintro e W7 ⟨rfl, rfl⟩
                go_wp2_with fail
                refine (read_blk xr hfree.off bl.length hklt).mono ?_
                rintro e W8 ⟨hb8, b8, rfl, hle8, hx8⟩
                have hwas8 : WasAt W8 V0.heap.size u10 bl (fun j => (s.C (j : Int)).getD (secOf s.L j)) := ⟨ownsRow_same hwas.row (fun k hk hl => hb8.block k hl), fun j hj => ⟨(hb8.block _ (blk_lt (hwas.secs j hj).1)).trans (hwas.secs j hj).1, (hwas.secs j hj).2⟩⟩
                have hN8 : V0.heap.size ≤ W8.heap.size := Nat.le_trans hb.size hb8.size
                have hba := hb.trans (hb8.mono hb.size)
                have hap := was_app hwas8 (by omega) hN8 (b := b8) hx8 (Nat.le_trans hb.size hle8) 39
                obtain ⟨A9, c9, W9, hrun, hwas9, hb9⟩ := hap
                clear hwas hwas8 hx8
                go_wp2_with (refine list_runs (by rfl) (runs_append rfl rfl rfl hrun) ?_)
                exact ⟨⟨bl.length + 1, by omega, by go_num, bl ++ [b8], by simp, hwas9, hba.trans hb9⟩, by simp [intOf]; omega⟩
              · have hdl : decide (((bl.length : Nat) : Int) < (s.n : Int)) = false := decide_eq_false (by omega)
                have hbn : bl.length = s.n := by omega
                have hA : ∃ AQ cQ, u10 = .slice AQ bl.length cQ := by
                  rcases hwas.row.2 with ⟨rfl, hn0⟩ | ⟨g, cap, cur, rfl, _⟩
                  · exact ⟨none, 0, by rw [hn0]⟩
                  · exact ⟨_, _, rfl⟩
                obtain ⟨AQ, cQ, rfl⟩ := hA
                have hfl := flush_all xr
                rw [flush_free hfree] at hfl
                have hBw := hB.trans (hb.mono hB.size)
                go_wp2_with fail
                refine hlr.mono ?_
                rintro e W7 ⟨rfl, rfl⟩
                go_wp2_with fail
                refine hfl.mono ?_
                rintro e W10 ⟨rfl, k10, x10⟩
                have hB10 := hBw.trans (k10.below bx hBw.size)
                have f10 := (hB10.block _ (blk_lt hbf)).trans hbf
                have y0 : W10.cell? ⟨W.heap.size, 0, none⟩ = some (.int .u64 f.stay) := cell_of_row W10 _ 0 _ _ _ f10
                have y1 : W10.cell? ⟨W.heap.size, 1, none⟩ = some (.int .i64 f.torn) := cell_of_row W10 _ 1 _ _ _ f10
                have y2 : W10.cell? ⟨W.heap.size, 2, none⟩ = some (.int .i64 f.cut) := cell_of_row W10 _ 2 _ _ _ f10
                have y3 : W10.cell? ⟨W.heap.size, 3, none⟩ = some (.bool f.head) := cell_of_row W10 _ 3 _ _ _ f10
                have hB0 : BytesAt W0 W0.heap.size none 0 [] := ⟨rfl, by simp, by omega⟩
                clear hlr hfl hbf f10
                go_wp2_with fail
                refine (restart_any x10 f hstay).mono ?_
                rintro e W11 ⟨rfl, k11, x11⟩
                have hB11 := hB10.trans (k11.below bx hB10.size)
                have hnF : ∀ b, V0.heap.size ≤ b → ¬ F b := fun b h h' => by have := hfx b h'; omega
                have hwas11 : WasAt W11 V0.heap.size (.slice AQ bl.length cQ) bl (fun j => (s.C (j : Int)).getD (secOf s.L j)) := by
                  have hkk : ∀ b, V0.heap.size ≤ b → b < wr.heap.size → W11.heap[b]? = wr.heap[b]? := fun b h h' => (k11.block b (Nat.lt_of_lt_of_le h' k10.size) (hnF b h)).trans (k10.block b h' (hnF b h))
                  exact ⟨ownsRow_same hwas.row (fun k hk hl => hkk k (hwas.row.lt k hk).1 hl), fun j hj => ⟨(hkk _ (hwas.secs j hj).2 (blk_lt (hwas.secs j hj).1)).trans (hwas.secs j hj).1, (hwas.secs j hj).2⟩⟩
                have hrf := rest_flush s f
                have hok := xr.1
                generalize restDk (flushDk s) f = s2 at x11 hrf
                obtain ⟨r1, r2, r3, r4, r5⟩ := hrf
                clear x10 xr x hwas y0 y1 y2 y3 k10 k11 hB hb hB10 hBw
                go_wp2_with fail
                generalize wr = V9 at *
                go_loopw [71] (fun v wr => ∃ k : Nat, k ≤ bl.length ∧ v = .int .i64 k ∧ Below W11.heap.size W11 wr) (fun v _ => bl.length - (intOf v).toNat)
                case atStart => exact ⟨0, Nat.zero_le _, rfl, Below.refl _ _⟩
                case round =>
                  obtain ⟨k, hkn2, rfl, hb⟩ := hrel
                  have xr := x11.below hb
                  by_cases hk2 : k < bl.length
                  · go_wp2_with fail
                    refine (read_blk xr r5 k (by omega)).mono ?_
                    rintro e W8 ⟨hb8, b8, rfl, hle8, hx8⟩
                    have hkn3 : k < s.n := by omega
                    rw [r3, r1, show ((fun _ => none : Int → Option (List Int)) (k : Int)).getD (secOf (flushL s) k) = (s.C (k : Int)).getD (secOf s.L k) from secOf_secs s.n (fun i hi => (cache_sec hok hi).1) k hkn3] at hx8
                    have hxs := cache_sec hok hkn3
                    have hAg : ∃ gw, AQ = some ⟨gw, 0, none⟩ := by
                      rcases hwas11.row.2 with ⟨hv, hn0⟩ | ⟨g, cap, cur, hv, _⟩
                      · exact absurd hn0 (by omega)
                      · injection hv with hv _ _
                        exact ⟨g, hv⟩
                    obtain ⟨gw, rfl⟩ := hAg
                    have hB8 := hb.trans (hb8.mono hb.size)
                    have hold := (hB8.block _ (blk_lt (hwas11.secs k hk2).1)).trans (hwas11.secs k hk2).1
                    have hcw := hwas11.row.cells (g := gw) rfl k (.slice (some ⟨bl[k], 0, none⟩) 64 64) (by rw [wasCells, List.getElem?_map, List.getElem?_eq_getElem hk2]; rfl)
                    rw [Addr.add_mid, Nat.zero_add] at hcw
                    have hcw8 : W8.drew.cell? ⟨gw, k, none⟩ = some (.slice (some ⟨bl[k], 0, none⟩) 64 64) := (World.cell?_of_block (a := ⟨gw, k, none⟩) (hB8.block gw (World.block_lt_of_cell? W11 _ hcw))).trans hcw
                    have st1 : (convert 22 9 (.slice (some ⟨b8, 0, none⟩) 64 64)).run Try.prog W8.drew = .ok (.string (strOfNums ((s.C (k : Int)).getD (secOf s.L k)))) W8.drew := run_str (bytes_of_blk (W := W8.drew) hxs hx8)
                    have st2 : (convert 22 9 (.slice (some ⟨bl[k], 0, none⟩) 64 64)).run Try.prog W8.drew = .ok (.string (strOfNums ((s.C (k : Int)).getD (secOf s.L k)))) W8.drew := run_str (bytes_of_blk (W := W8.drew) hxs hold)
                    generalize strOfNums ((s.C (k : Int)).getD (secOf s.L k)) = str at st1 st2
                    generalize bl[k] = bk at hcw8 st2
                    clear hx8 hold hcw hxs x11 xr hwas11 hok hnF hfree
                    go_wp2_with fail
                    refine wp_region_still_lit (by kernel_rfl) (by kernel_rfl) ?_
                    change wpStill _ _ W8.drew _ _ _
                    still_step
                    still_step
                    still_step
                    still_step
                    refine wpStill_step (fun K hK => ?_)
                    refine still_runs (by rfl) (runs_convert rfl rfl st1) ?_
                    refine hK _ ?_
                    clear hK K
                    try simp only [Act.put, List.getElem_toArray, List.getElem_cons_zero, List.getElem_cons_succ, List.setIfInBounds_toArray, List.set_cons_succ, List.set_cons_zero]
                    still_step
                    still_step
                    still_step
                    still_step
                    refine wpStill_step (fun K hK => ?_)
                    refine still_runs (by rfl) (runs_convert rfl rfl st2) ?_
                    refine hK _ ?_
                    clear hK K
                    try simp only [Act.put, List.getElem_toArray, List.getElem_cons_zero, List.getElem_cons_succ, List.setIfInBounds_toArray, List.set_cons_succ, List.set_cons_zero]
                    still_step
                    still_step
                    refine wpStill_nil ?_
                    go_wp2_with fail
                    exact ⟨⟨k + 1, by omega, by go_num, hB8.drew⟩, by simp [intOf]; omega⟩
                  · obtain rfl : k = bl.length := by omega
                    have hwt := waiting_none xr r4
                    have hBf := hB11.trans (hb.mono hB11.size)
                    go_wp2_with fail
                    refine hwt.mono ?_
                    rintro e W8 ⟨rfl, rfl⟩
                    go_wp2_with fail
                    go_ret
                    exact ⟨rfl, hgo _ hBf⟩
  exact fun W' h => hBB.trans (h.mono hWW)
end Go.Proofs.Ytpllifppjlakpaa.Dk
namespace Go.Proofs.Ytpllifppjlakpaa
open Go.RowKit
open Go.ChangeShapes Go.WideShapes Go.ChangeAt in
theorem Dk.fate_val {W : World} {H : Type} {enc : TypeId × Value → H} {base : Nat} {d : DataW H} {p : List MemPlace} {v : Value} (hok : Value.okWide Try.prog W .any base 30 v) (ht : DataW.Trod enc Try.prog W 0 (fun _ => true) true 30 v d p) :
    ∃ f : Dk.FateV, v = f.val ∧ 0 ≤ f.stay ∧ f.stay < 18446744073709551616 := by
  obtain ⟨cs, rfl, hsz⟩ := okWide_struct Try.underlying30 hok
  obtain ⟨fuel, hf⟩ := ht
  have e30 : Try.prog.cellsOf 30 = 4 := by kernel_rfl
  rw [e30] at hsz
  obtain ⟨c0, c1, c2, c3, rfl⟩ := Go.Joins.array4 hsz
  obtain ⟨f, rfl, rfl, rfl, rfl, -, -, h1, h2⟩ := Dk.fate_open hf
  exact ⟨f, rfl, h1, h2⟩
theorem diskKeeps_walk (W : World) {H : Type} {enc : TypeId × Value → H} {base : Nat} {d : DataW H} {p : List MemPlace} (A : Option Addr) (m c : Nat) (bs : List Int) (hb : BytesAt W W.heap.size A m bs) (hmc : m ≤ c) (hc : c ≤ 140737488351232) (A' : Option Addr) (n c' : Nat) (l : List Dk.ActV) (hl : Dk.ActsAt W A' n l) (hnc : n ≤ c')
    (v : Value) (hok : Value.okWide Try.prog W .any base 30 v) (ht : DataW.Trod enc Try.prog W 0 (fun _ => true) true 30 v d p) :
    Calls Try.prog 4 #[.slice A m c, .slice A' n c', v] W fun e W' => e = .returned (.bool true) ∧ Below W.heap.size W W' := by
  obtain ⟨f, rfl, hs⟩ := Dk.fate_val hok ht
  exact Dk.keeps_law W A m c bs hb hmc A' n c' l hl hnc f hs
end Go.Proofs.Ytpllifppjlakpaa
