/-
  root: the reference's Decode.
-/
import Derived.Test.YtghpnhiliihlaaaRootC
import Derived.Test.YtghpnhiliihlaaaRootD
import Derived.Deep.RegionLaw
namespace Go.Proofs.Ytghpnhiliihlaaa.Root
open Go.RowKit Go.Shelf Go.Proofs.Ytghpnhiliihlaaa
open Go.Proofs.YtghpnhiliihlaaaW.PrintWords (Kd)
attribute [local go_sem] Oper.semAt_some
set_option linter.unusedVariables false
set_option linter.unusedSimpArgs false

structure rdecOk (bs : List Int) : Prop where
  len : bs.length = 64
  many : manyOf bs ≤ 4
  ok : okRoot (genOf bs) (snapsOf bs (manyOf bs))
  same : bs = encR (genOf bs) (snapsOf bs (manyOf bs))
/-- What the reference's Decode hands back. -/
def RDecPost (bs : List Int) (base : Nat) (e : Ending) (w' : World) : Prop :=
  (rdecOk bs ∧ ∃ A' c', e = .returned (.tuple #[.agg #[.int .u64 (genOf bs), .slice A' (manyOf bs) c'], .int .i64 0]) ∧ OwnSnaps w' base (.slice A' (manyOf bs) c') (snapsOf bs (manyOf bs))) ∨
  (¬ rdecOk bs ∧ e = .returned (.tuple #[.agg #[.int .u64 0, .slice none 0 0], .int .i64 30]))
def RRes (w : World) (W : World) : Prop := W.heap[w.heap.size]? = some (.cells #[.int .u64 0, .slice none 0 0] 40 (0, 0)) ∧ Below w.heap.size w W
theorem RRes.facts {w W : World} (h : RRes w W) : W.cell? ⟨w.heap.size, 0, none⟩ = some (.int .u64 0) ∧ W.cell? ⟨w.heap.size, 1, none⟩ = some (.slice none 0 0) ∧ W.frozen? ⟨w.heap.size, 0, none⟩ = false ∧ W.frozen? ⟨w.heap.size, 1, none⟩ = false :=
  ⟨cell_of_row _ _ 0 _ _ _ h.1, cell_of_row _ _ 1 _ _ _ h.1, frozen_blk h.1 0, frozen_blk h.1 1⟩
theorem RRes.laid {w W : World} (h : RRes w W) (a b : Value) : ((W.setCell ⟨w.heap.size, 0, none⟩ a).setCell ⟨w.heap.size, 1, none⟩ b).heap[w.heap.size]? = some (.cells #[a, b] 40 (0, 0)) ∧ Below w.heap.size w ((W.setCell ⟨w.heap.size, 0, none⟩ a).setCell ⟨w.heap.size, 1, none⟩ b) :=
  ⟨heap_setCell_same _ _ 1 _ 40 _ (heap_setCell_same W _ 0 _ 40 _ h.1), (h.2.setCell (by simp) _).setCell (by simp) _⟩
set_option maxRecDepth 100000 in
set_option maxHeartbeats 2000000 in
theorem rdecode_any (A : Option Addr) (n c : Nat) (bs : List Int) (w : World) (hbs : BytesAt w w.heap.size A n bs) (hnc : n ≤ c) (hn : n ≤ 140737488351232) :
    Calls Try.prog 33 #[.slice A n c] w fun e w' => Below w.heap.size w w' ∧ RDecPost bs w.heap.size e w' := by
  have hl := hbs.1
  by_cases h64 : n = 64
  · subst h64
    have hr : ∀ x ∈ bs, 0 ≤ x ∧ x < 256 := hbs.2.1
    have hb0 : Below w.heap.size w (w.alloc (.cells #[.int .u64 0, .slice none 0 0] 40)) := (Below.refl _ _).alloc (Nat.le_refl _) _
    have hr0 : (w.alloc (.cells #[.int .u64 0, .slice none 0 0] 40)).heap[w.heap.size]? = some (.cells #[.int .u64 0, .slice none 0 0] 40 (0, 0)) := heap_alloc_new _ _
    go_enter Try.func33, Try.ntmps33
    go_wp2_with fail
    refine (rnum_any A 64 c bs 4 8 hn (by omega) (by omega) _ ((hbs.below hb0).more hb0.size)).mono ?_
    rintro e W1 ⟨he, hW1⟩
    change e = .returned (.int .u64 (genOf bs)) at he
    subst he
    rw [← hW1]
    clear hW1
    have hS : RRes w (w.alloc (.cells #[.int .u64 0, .slice none 0 0] 40)) := ⟨hr0, hb0⟩
    clear hr0 hb0
    generalize w.alloc (.cells #[.int .u64 0, .slice none 0 0] 40) = W1 at hS ⊢
    go_wp2_with fail
    have hgo : (W1.alloc (.cells #[.int .u64 (genOf bs), .slice none 0 0] 40)).heap[W1.heap.size]? = some (.cells #[.int .u64 (genOf bs), .slice none 0 0] 40 (0, 0)) := heap_alloc_new _ _
    have hS2 : RRes w (W1.alloc (.cells #[.int .u64 (genOf bs), .slice none 0 0] 40)) := ⟨blk_alloc hS.1 _, hS.2.alloc hS.2.size _⟩
    have hgone : W1.heap.size ≠ w.heap.size := fun e => by have := blk_lt hS.1; omega
    have hgoge := hS.2.size
    clear hS
    generalize W1.alloc (.cells #[.int .u64 (genOf bs), .slice none 0 0] 40) = W2 at hgo hS2 ⊢
    generalize W1.heap.size = go at hgo hgone hgoge ⊢
    refine (rnum_any A 64 c bs 12 2 hn (by omega) (by omega) W2 ((hbs.below hS2.2).more hS2.2.size)).mono ?_
    rintro e W3 ⟨he, rfl⟩
    have hm0 := num_range hr 12 2 (by omega) (by omega)
    have hmany : numTo bs ((12 : Nat) : Int) 2 = (manyOf bs : Int) := (Int.toNat_of_nonneg hm0.1).symm
    change e = .returned (.int .u64 (numTo bs 12 2)) at he
    change numTo bs 12 2 = (manyOf bs : Int) at hmany
    rw [hmany] at he
    subst he
    have hm1 : manyOf bs < 65536 := by
      have : numTo bs ((12 : Nat) : Int) 2 < 65536 := hm0.2
      change numTo bs 12 2 < 65536 at this
      rw [hmany] at this
      omega
    clear hm0 hmany
    generalize hM : manyOf bs = M at hm1 ⊢
    have HM := Lib.hid hM
    clear hM
    have hwM : wrap64 (M : Int) = (M : Int) := wrap64_of (by omega) (by omega)
    have HS2 := Lib.hid hS2
    have Hgo := Lib.hid hgo
    clear hS2 hgo
    by_cases h4 : M ≤ 4
    · have h4i : ¬ (4 : Int) < (M : Int) := by omega
      go_wp2_with fail
      go_loopw [6] (fun i wr => ∃ k : Nat, k ≤ M ∧ i = .int .i64 k ∧ RRes w wr ∧ ∃ v, wr.heap[go]? = some (.cells #[.int .u64 (genOf bs), v] 40 (0, 0)) ∧ OwnSnaps wr w.heap.size v (snapsOf bs k)) (fun i _ => M - (intOf i).toNat)
      case atStart => exact ⟨0, Nat.zero_le _, rfl, HS2.out, _, Hgo.out, Kd.R_nil _ _ _ _ _⟩
      case round =>
        obtain ⟨k, hk, rfl, hS, v, hgo, hown⟩ := hrel
        clear HS2 Hgo
        by_cases hlt : k < M
        · have i1 : (k : Int) < (M : Int) := Int.ofNat_lt.2 hlt
          have k4 : k < 4 := Nat.lt_of_lt_of_le hlt h4
          have ik4 : (k : Int) < 4 := Int.ofNat_lt.2 k4
          have hnx : wrap64 ((k : Int) + 1) = ((k + 1 : Nat) : Int) := wrap_nat (by omega)
          have m1 : IntKind.i64.wrap (10 * (k : Int)) = 10 * (k : Int) := IntWalk.i64_in _ (by omega)
          have m2 : IntKind.i64.wrap (14 + 10 * (k : Int)) = 14 + 10 * (k : Int) := IntWalk.i64_in _ (by omega)
          have m3 : IntKind.i64.wrap (22 + 10 * (k : Int)) = 22 + 10 * (k : Int) := IntWalk.i64_in _ (by omega)
          have hcg0 : wr.drew.cell? ⟨go, 0, none⟩ = some (.int .u64 (genOf bs)) := cell_of_row _ _ 0 _ _ _ hgo
          have hcg1 : wr.drew.cell? ⟨go, 1, none⟩ = some v := cell_of_row _ _ 1 _ _ _ hgo
          have HS := Lib.hid hS
          have Hgo := Lib.hid hgo
          have Hown := Lib.hid hown
          have Hbd : BytesAt wr.drew wr.drew.heap.size A 64 bs := (hbs.below hS.2.drew).more hS.2.size
          have hsn : snapsOf bs (k + 1) = snapsOf bs k ++ [⟨numTo bs (14 + 10 * (k : Int)) 8, numTo bs (22 + 10 * (k : Int)) 2⟩] := rfl
          have hx1r := num_range hr (22 + 10 * k) 2 (by omega) (by omega)
          rw [show ((22 + 10 * k : Nat) : Int) = 22 + 10 * (k : Int) by omega] at hx1r
          have hn0 := rnum_any A 64 c bs (14 + 10 * (k : Int)) 8 hn (by omega) (by omega) wr.drew Hbd
          have hn1 := rnum_any A 64 c bs (22 + 10 * (k : Int)) 2 hn (by omega) (by omega) wr.drew Hbd
          change Calls _ _ _ _ fun e w' => e = .returned (.int .u64 (numTo bs (14 + 10 * (k : Int)) 8)) ∧ wr.drew = w' at hn0
          change Calls _ _ _ _ fun e w' => e = .returned (.int .u64 (numTo bs (22 + 10 * (k : Int)) 2)) ∧ wr.drew = w' at hn1
          generalize hx0 : numTo bs (14 + 10 * (k : Int)) 8 = x0 at hsn hn0 ⊢
          generalize ha0 : 14 + 10 * (k : Int) = a0 at hn0
          have m2a := m2.trans ha0
          clear m2
          generalize hx1 : numTo bs (22 + 10 * (k : Int)) 2 = x1 at hsn hx1r hn1 ⊢
          generalize ha1 : 22 + 10 * (k : Int) = a1 at hn1
          have m3a := m3.trans ha1
          clear m3
          have hws : IntKind.i64.wrap x1 = x1 := IntWalk.i64_in _ (by omega)
          have Hsn := Lib.hid hsn
          clear hS hgo hown hsn hx0 hx1 hx1r ha0 ha1
          go_wp2_with fail
          have hcg1a : (wr.alloc (.cells #[.int .u64 x0, .int .i64 x1] 63)).cell? ⟨go, 1, none⟩ = some v := cell_of_row _ _ 1 _ _ _ (blk_alloc (w := wr) Hgo.out _)
          have hownd : OwnSnaps wr.drew w.heap.size v (snapsOf bs k) := OwnSnaps.step Hown.out (fun q _ _ => rfl)
          have hbd : Below w.heap.size w wr.drew := HS.out.2.drew
          have hlenk : ((snapsOf bs k).length + 1) * 16 ≤ 140737488355328 := by rw [snapsOf_length]; omega
          have hfgo : wr.frozen? ⟨go, 1, none⟩ = false := frozen_blk Hgo.out 1
          go_region_law (first
            | (refine Kd.R_append_step (w0 := w) (W := wr.drew) PRootReads.k63 w.heap.size rfl (.tmp 28) (.tmp 41) 38 63 _ 16 rfl Try.underlying38 info63 rfl (by decide) (by decide) v (snapsOf bs k) ⟨x0, x1⟩ [.int .u64 x0, .int .i64 x1] (fun _ => True) (fun _ => False) (by simp [Act.eval, Act.put]) (by simp [Act.eval, Act.put]) (PRootReads.k63_mkM _ _ _ _) (fun _ h => h.elim) (fun _ _ => trivial) hownd hbd hbd.size hlenk ?_
               intro v1 w1 hown1 hb1 hg1 _
               obtain ⟨A1, c1, rfl⟩ := Kd.R_slice hown1
               have hgo1 := blk_row (w := wr.drew) Hgo.out hg1 (hownd.ne Hgo.out (by decide))
               have hf1 := frozen_blk hgo1 1
               have hcc1 : w1.cell? ⟨go, 1, none⟩ = some v := cell_of_row w1 _ 1 _ _ _ hgo1)
            | (go_simp; go_at_call_of 22 (Value.int .i64 a0); refine hn0.mono ?_; rintro e w' ⟨rfl, rfl⟩)
            | (go_simp; go_at_call_of 22 (Value.int .i64 a1); refine hn1.mono ?_; rintro e w' ⟨rfl, rfl⟩))
          have hms : M - (k + 1) < M - k := Nat.sub_lt_sub_left hlt (Nat.lt_succ_self k)
          all_goals
            have hres1 := blk_row (w := wr.drew) HS.out.1 hg1 (hownd.ne HS.out.1 (by decide))
            go_wp2_with fail
            go_roundw
            case rel =>
              refine ⟨k + 1, hlt, by first | rfl | rw [hnx], ⟨(heap_set2 _ _ _ _ _ hgone.symm).trans hres1, hb1.setCell (by show w.heap.size ≤ go; exact hgoge) _⟩, _, heap_setCell_same w1 go 1 _ 40 _ hgo1, ?_⟩
              rw [Hsn.out]
              rw [List.length_append] at hown1
              exact OwnSnaps.step hown1 fun q hq hc => heap_set2 _ _ _ _ _ (fun e => by
                obtain ⟨cells, hc⟩ := hc
                rw [e, hgo1] at hc
                injection hc with hc
                injection hc with _ e2 _
                revert e2; decide)
            case measure => first | exact hms | (rw [hnx]; exact hms) | (simp [intOf]; omega)
        · obtain rfl : k = M := by omega
          have i1 : ¬ (k : Int) < (k : Int) := by omega
          obtain ⟨A', c', hv⟩ := Kd.R_slice hown
          have hlen := snapsOf_length bs k
          rw [hlen] at hv
          subst hv
          obtain ⟨-, hcc', hsn⟩ := Kd.R_reads' hown
          have hcg0 : wr.cell? ⟨go, 0, none⟩ = some (.int .u64 (genOf bs)) := cell_of_row _ _ 0 _ _ _ hgo
          have hcg1 : wr.cell? ⟨go, 1, none⟩ = some (.slice A' k c') := cell_of_row _ _ 1 _ _ _ hgo
          have HS := Lib.hid hS
          have Hgo := Lib.hid hgo
          have Hown := Lib.hid hown
          rw [← hlen] at hcc'
          by_cases hok : okRoot (genOf bs) (snapsOf bs k)
          · have hE := rencode_yes (genOf bs) A' c' (snapsOf bs k) wr hsn hcc' (by rw [hlen]; omega) hok
            rw [hlen] at hE
            have Hsn := Lib.hid hsn
            clear hS hgo hown hsn
            go_wp2_with fail
            refine hE.mono ?_
            rintro e W5 ⟨⟨A5, c5, rfl, ho5⟩, hb5⟩
            have hS5 : RRes w W5 := ⟨blk_below HS.out.1 hb5 (blk_lt HS.out.1), HS.out.2.trans (hb5.mono HS.out.2.size)⟩
            have hgo5 := blk_below Hgo.out hb5 (blk_lt Hgo.out)
            have hown5 : OwnSnaps W5 w.heap.size (.slice A' k c') (snapsOf bs k) := OwnSnaps.step Hown.out (fun q hq _ => hb5.block q hq)
            have hsame := same_any A A5 64 64 c c5 bs _ w.heap.size W5.heap.size W5 (hbs.below hS5.2) (ho5.at_ (encR_range _ _))
            have hcg05 : W5.cell? ⟨go, 0, none⟩ = some (.int .u64 (genOf bs)) := cell_of_row _ _ 0 _ _ _ hgo5
            have hcg15 : W5.cell? ⟨go, 1, none⟩ = some (.slice A' k c') := cell_of_row _ _ 1 _ _ _ hgo5
            obtain ⟨f0, f1, f2, f3⟩ := RRes.facts hS5
            have HS5 := Lib.hid hS5
            have Hown5 := Lib.hid hown5
            clear hS5 hgo5 hown5 ho5 hb5 hcg0 hcg1 HS Hgo Hown
            by_cases hsm : bs = encR (genOf bs) (snapsOf bs k)
            · rw [decide_eq_true hsm] at hsame
              have Hsm := Lib.hid hsm
              clear hsm
              go_wp2_with fail
              refine hsame.mono ?_
              rintro e W6 ⟨rfl, rfl⟩
              go_wp2_with fail
              obtain ⟨l1, l2⟩ := RRes.laid HS5.out (.int .u64 (genOf bs)) (.slice A' k c')
              have l3 : OwnSnaps ((W5.setCell ⟨w.heap.size, 0, none⟩ (.int .u64 (genOf bs))).setCell ⟨w.heap.size, 1, none⟩ (.slice A' k c')) w.heap.size (.slice A' k c') (snapsOf bs k) := OwnSnaps.step Hown5.out fun q hq hc => by
                have hne : q ≠ w.heap.size := fun e => by
                  obtain ⟨cells, hc⟩ := hc
                  rw [e, HS5.out.1] at hc
                  injection hc with hc
                  injection hc with _ e2 _
                  revert e2; decide
                exact (heap_set2 _ _ _ _ _ hne).trans (heap_set2 _ _ _ _ _ hne)
              clear f0 f1 f2 f3
              generalize (W5.setCell ⟨w.heap.size, 0, none⟩ (.int .u64 (genOf bs))).setCell ⟨w.heap.size, 1, none⟩ (.slice A' k c') = W4 at l1 l2 l3 ⊢
              have hc0 : W4.cell? ⟨w.heap.size, 0, none⟩ = some (.int .u64 (genOf bs)) := cell_of_row W4 _ 0 _ _ _ l1
              have hc1 : W4.cell? ⟨w.heap.size, 1, none⟩ = some (.slice A' k c') := cell_of_row W4 _ 1 _ _ _ l1
              refine ⟨rfl, .tuple #[.agg #[.int .u64 (genOf bs), .slice A' k c'], .int .i64 0], by simp [results, Try.results33, go_sem, hc0, hc1], l2, .inl ⟨⟨hl, by rw [HM.out]; exact h4, by rw [HM.out]; exact hok, by rw [HM.out]; exact Hsm.out⟩, A', c', by rw [HM.out], by rw [HM.out]; exact l3⟩⟩
              
            · rw [decide_eq_false hsm] at hsame
              have Hsm := Lib.hid hsm
              clear hsm
              go_wp2_with fail
              refine hsame.mono ?_
              rintro e W6 ⟨rfl, rfl⟩
              go_wp2_with fail
              obtain ⟨l1, l2⟩ := RRes.laid HS5.out (.int .u64 0) (.slice none 0 0)
              clear f0 f1 f2 f3
              generalize (W5.setCell ⟨w.heap.size, 0, none⟩ (.int .u64 0)).setCell ⟨w.heap.size, 1, none⟩ (.slice none 0 0) = W4 at l1 l2 ⊢
              have hc0 : W4.cell? ⟨w.heap.size, 0, none⟩ = some (.int .u64 0) := cell_of_row W4 _ 0 _ _ _ l1
              have hc1 : W4.cell? ⟨w.heap.size, 1, none⟩ = some (.slice none 0 0) := cell_of_row W4 _ 1 _ _ _ l1
              refine ⟨rfl, .tuple #[.agg #[.int .u64 0, .slice none 0 0], .int .i64 30], by simp [results, Try.results33, go_sem, hc0, hc1], l2, .inr ⟨fun h => Hsm.out (by have h2 := h.same; rw [HM.out] at h2; exact h2), rfl⟩⟩
              
          · have hE := rencode_no (genOf bs) A' c' (snapsOf bs k) wr hsn hcc' (by rw [hlen]; omega) hok
            rw [hlen] at hE
            clear hS hgo hown hsn
            go_wp2_with fail
            refine hE.mono ?_
            rintro e W5 ⟨rfl, hb5⟩
            have hS5 : RRes w W5 := ⟨blk_below HS.out.1 hb5 (blk_lt HS.out.1), HS.out.2.trans (hb5.mono HS.out.2.size)⟩
            obtain ⟨f0, f1, f2, f3⟩ := RRes.facts hS5
            have HS5 := Lib.hid hS5
            clear hS5 hb5 hcg0 hcg1
            go_wp2_with fail
            obtain ⟨l1, l2⟩ := RRes.laid HS5.out (.int .u64 0) (.slice none 0 0)
            clear f0 f1 f2 f3
            generalize (W5.setCell ⟨w.heap.size, 0, none⟩ (.int .u64 0)).setCell ⟨w.heap.size, 1, none⟩ (.slice none 0 0) = W4 at l1 l2 ⊢
            have hc0 : W4.cell? ⟨w.heap.size, 0, none⟩ = some (.int .u64 0) := cell_of_row W4 _ 0 _ _ _ l1
            have hc1 : W4.cell? ⟨w.heap.size, 1, none⟩ = some (.slice none 0 0) := cell_of_row W4 _ 1 _ _ _ l1
            refine ⟨rfl, .tuple #[.agg #[.int .u64 0, .slice none 0 0], .int .i64 30], by simp [results, Try.results33, go_sem, hc0, hc1], l2, .inr ⟨fun h => hok (by have h2 := h.ok; rw [HM.out] at h2; exact h2), rfl⟩⟩
            
    · have h4i : (4 : Int) < (M : Int) := by omega
      obtain ⟨f0, f1, f2, f3⟩ := RRes.facts HS2.out
      go_wp2_with fail
      obtain ⟨l1, l2⟩ := RRes.laid HS2.out (.int .u64 0) (.slice none 0 0)
      clear f0 f1 f2 f3
      generalize (W2.setCell ⟨w.heap.size, 0, none⟩ (.int .u64 0)).setCell ⟨w.heap.size, 1, none⟩ (.slice none 0 0) = W4 at l1 l2 ⊢
      have hc0 : W4.cell? ⟨w.heap.size, 0, none⟩ = some (.int .u64 0) := cell_of_row W4 _ 0 _ _ _ l1
      have hc1 : W4.cell? ⟨w.heap.size, 1, none⟩ = some (.slice none 0 0) := cell_of_row W4 _ 1 _ _ _ l1
      refine ⟨rfl, .tuple #[.agg #[.int .u64 0, .slice none 0 0], .int .i64 30], by simp [results, Try.results33, go_sem, hc0, hc1], l2, .inr ⟨fun h => h4 (by rw [← HM.out]; exact h.many), rfl⟩⟩
  · have hni : ¬ (n : Int) = 64 := by omega
    have hb1 : ((n : Int) == 64) = false := beq_eq_false_iff_ne.2 hni
    have hb2 : ((n : Int) != 64) = true := by rw [bne, hb1]; rfl
    have hb0 : Below w.heap.size w (w.alloc (.cells #[.int .u64 0, .slice none 0 0] 40)) := (Below.refl _ _).alloc (Nat.le_refl _) _
    have hr0 : (w.alloc (.cells #[.int .u64 0, .slice none 0 0] 40)).heap[w.heap.size]? = some (.cells #[.int .u64 0, .slice none 0 0] 40 (0, 0)) := heap_alloc_new _ _
    have hc0 : (w.alloc (.cells #[.int .u64 0, .slice none 0 0] 40)).cell? ⟨w.heap.size, 0, none⟩ = some (.int .u64 0) := cell_of_row _ _ 0 _ _ _ hr0
    have hc1 : (w.alloc (.cells #[.int .u64 0, .slice none 0 0] 40)).cell? ⟨w.heap.size, 1, none⟩ = some (.slice none 0 0) := cell_of_row _ _ 1 _ _ _ hr0
    have hf0 := frozen_blk hr0 0
    have hf1 := frozen_blk hr0 1
    go_enter Try.func33, Try.ntmps33
    go_wp2_with fail
    refine ⟨rfl, .tuple #[.agg #[.int .u64 0, .slice none 0 0], .int .i64 30], by simp [results, Try.results33, go_sem, hc0, hc1], hb0, .inr ⟨fun h => h64 (by rw [← hl]; exact h.len), rfl⟩⟩
end Go.Proofs.Ytghpnhiliihlaaa.Root
