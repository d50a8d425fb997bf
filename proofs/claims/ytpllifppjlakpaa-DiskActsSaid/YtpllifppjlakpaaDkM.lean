/-
  disk: Bytes, Of, all answers of Write and Flush.
-/
import Derived.Test.YtpllifppjlakpaaDkL
namespace Go.Proofs.Ytpllifppjlakpaa.Dk
open Go.RowKit Go.Shelf Go.Proofs.Ytpllifppjlakpaa
attribute [local go_sem] Oper.semAt_some
set_option linter.unusedVariables false
set_option linter.unusedSimpArgs false
theorem bytes_any {F : Nat → Prop} {W : World} {d : Nat} {s : Dk} (h : DiskAt F W d s) :
    Calls Try.prog 14 #[.pointer (some ⟨d, 0, none⟩)] W fun e W' => Below W.heap.size W W' ∧ ∃ A c, e = .returned (.slice A s.L.length c) ∧ OwnBytes W' W.heap.size (.slice A s.L.length c) s.L := by
  obtain ⟨h0, h1, h2, gL, gM, vQ, a1, a2, a3, a4, a5, a6, a7⟩ := id h
  obtain ⟨c0, c1, c2, c3, c4, c5⟩ := six a4
  have hn := h0.n
  have hlen := h0.len
  have hby := h0.bytes
  have hd := h1 d h2
  have hg := h1 gL a1
  clear h0 h1 h2 a1 a2 a3 a6 a7 h
  go_enter Try.func14, Try.ntmps14
  go_wp2
  go_loopw [3, 12] (fun v3 v wr => ∃ i : Nat, i ≤ s.n ∧ v = .int .i64 i ∧ OwnBytes wr W.heap.size v3 (s.L.take (64 * i)) ∧ Below W.heap.size W wr) (fun _ v _ => s.n - (intOf v).toNat)
  case atStart => exact ⟨0, Nat.zero_le _, rfl, by rw [Nat.mul_zero, List.take_zero]; exact World.ownsRow_nil _ _ _ _, Below.refl _ _⟩
  case round =>
    obtain ⟨i, hi, rfl, ho, hb⟩ := hrel
    by_cases hlt : i < s.n
    · have d4 := (hb.block d hd).trans a4
      have d5 := (hb.block gL hg).trans a5
      have e0 := (six d4).1
      have hsec : isSec (secOf s.L i) := ⟨secOf_length hlen hlt, secOf_bytes hby i⟩
      have hr : BytesAt wr wr.heap.size (some ⟨gL, i * 64, none⟩) 64 (secOf s.L i) := bytes_of_range hsec (blk_lt d5) (by rw [Nat.mul_comm]; exact secOf_range d5 i)
      have Hn : Hid (s.L.take (64 * i) ++ secOf s.L i = s.L.take (64 * (i + 1))) := by
        show _ = _
        unfold secOf
        rw [show 64 * (i + 1) = 64 * i + 64 by omega, List.take_add]
      have hl1 : (s.L.take (64 * i)).length = 64 * i := by rw [List.length_take]; omega
      have Hl1 := Lib.hid hl1
      have Hlen := Lib.hid hlen
      clear a4 a5 c0 c1 c2 c3 c4 c5 hl1 hlen
      go_wp2_with (refine wpL_app (by rfl) (.tmp 15) (.tmp 22) rfl W.heap.size _ (s.L.take (64 * i)) rfl ho wr.heap.size _ _ _ (secOf s.L i) rfl hr (by rw [Hl1.out]; omega) hb.size ?_; intro A' c' w' ho' hg' hbl')
      rw [Hn.out] at ho' hbl'
      exact ⟨⟨i + 1, by omega, by go_num, by rw [show min (64 * i) s.L.length + (secOf s.L i).length = (s.L.take (64 * (i + 1))).length by rw [hsec.1, List.length_take, Hlen.out]; omega]; exact ho', ho.frame hb hg' hb.size (Nat.le_refl _)⟩, by simp [intOf]; omega⟩
    · obtain rfl : i = s.n := by omega
      obtain ⟨A, c, rfl⟩ := ho.form
      rw [← hlen, List.take_of_length_le (Nat.le_refl _)] at ho
      go_wp2
      go_ret
      rw [← hlen, List.take_of_length_le (Nat.le_refl _)]
      exact ⟨hb, _, _, rfl, ho⟩
def ofDk (bs : List Int) : Dk := { newDk (((bs.length + 63) / 64 : Nat) : Int) with L := padTo (64 * ((bs.length + 63) / 64)) bs }
theorem pad_step {bs : List Int} {n i : Nat} (hn : n = (bs.length + 63) / 64) (hi : i < n) : splice (padTo (64 * n) (bs.take (64 * i))) (64 * i) ((bs.drop (64 * i)).take 64) = padTo (64 * n) (bs.take (64 * (i + 1))) := by
  have hle : 64 * i ≤ bs.length := by omega
  have h1 : (bs.take (64 * i)).length = 64 * i := by rw [List.length_take]; omega
  have h2 : ((bs.drop (64 * i)).take 64).length = min 64 (bs.length - 64 * i) := by rw [List.length_take, List.length_drop]
  have h3 : bs.take (64 * (i + 1)) = bs.take (64 * i) ++ (bs.drop (64 * i)).take 64 := by rw [show 64 * (i + 1) = 64 * i + 64 by omega, List.take_add]
  rw [h3]
  generalize bs.take (64 * i) = X at h1
  generalize (bs.drop (64 * i)).take 64 = Y at h2
  unfold splice padTo nots
  rw [List.take_of_length_le (l := X) (by omega), List.take_of_length_le (l := X ++ Y) (by rw [List.length_append]; omega), List.length_append, h1]
  rw [List.take_append_of_le_length (by omega), List.take_of_length_le (by omega), List.drop_append, List.drop_eq_nil_of_le (by omega), List.nil_append, List.drop_replicate, List.append_assoc, h1]
  congr 3
  omega
theorem of_any {A : Option Addr} {m c : Nat} {bs : List Int} {W : World} (hb : BytesAt W W.heap.size A m bs) (hmc : m ≤ c) (hm : m ≤ 5000) :
    Calls Try.prog 10 #[.slice A m c] W fun e W' => Below W.heap.size W W' ∧ ∃ d F, e = .returned (.pointer (some ⟨d, 0, none⟩)) ∧ (∀ b, F b → W.heap.size ≤ b) ∧ DiskAt F W' d (ofDk bs) := by
  have hml := hb.1
  have hq : (((min (m : Int) 128000 + 64) - 1).tdiv 64) = (((m + 63) / 64 : Nat) : Int) := by
    rw [Int.tdiv_eq_ediv_of_nonneg (by omega)]
    omega
  have w1 : wrap64 ((m : Int) + 64) = (m : Int) + 64 := wrap64_of (by omega) (by omega)
  have w2 : wrap64 ((m : Int) + 64 - 1) = (m : Int) + 64 - 1 := wrap64_of (by omega) (by omega)
  have hmle : ¬ (128000 : Int) < (m : Int) := by omega
  have hmle2 : (m : Int) ≤ 128000 := by omega
  go_enter Try.func10, Try.ntmps10
  go_wp2_with fail
  have hNk : ((m : Int) + 64 - 1) / 64 = (((m + 63) / 64 : Nat) : Int) := by omega
  refine (new_any (((m : Int) + 64 - 1) / 64) (by omega) (by omega) W).mono ?_
  rintro e W1 ⟨hB1, d, F, rfl, hF, hD1⟩
  rw [hNk] at hD1
  have hof : ofDk bs = { newDk (((m + 63) / 64 : Nat) : Int) with L := padTo (64 * ((m + 63) / 64)) bs } := by unfold ofDk; rw [hml]
  have hnn : (newDk (((m + 63) / 64 : Nat) : Int)).n = (m + 63) / 64 := by unfold newDk; show (min (max (((m + 63) / 64 : Nat) : Int) 0) 2000).toNat = _; omega
  have hbB := hb
  obtain ⟨h0, h1, h2, gL, gM, vQ, a1, a2, a3, a4, a5, a6, a7⟩ := id hD1
  have hLL : (newDk (((m + 63) / 64 : Nat) : Int)).L = padTo (64 * ((m + 63) / 64)) (bs.take (64 * 0)) := by
    unfold newDk padTo
    show nots (64 * (min (max (((m + 63) / 64 : Nat) : Int) 0) 2000).toNat) = _
    rw [Nat.mul_zero, List.take_zero, List.take_nil, List.nil_append, List.length_nil, Nat.sub_zero]
    congr 1
    omega
  rw [hnn] at a4
  rw [hLL] at a5
  have ndL : d ≠ gL := fun e => by subst e; exact absurd (blk_type a4 a5) (by decide)
  have nM := a6.ne a5
  have nQ : vQ.ownBlock ≠ some gL := fun e => by
    obtain ⟨cl, hh⟩ := ownsRow_type a7 e
    exact absurd (blk_type a5 hh) (by decide)
  have hgLW : W.heap.size ≤ gL := hF gL a1
  generalize hN : (m + 63) / 64 = N at *
  obtain ⟨c0, c1, c2, c3, c4, c5⟩ := six a4
  clear hq w1 w2 hmle
  go_wp2_with fail
  go_loopw [17] (fun v wr => ∃ i : Nat, i ≤ N ∧ v = .int .i64 i ∧ Keeps (fun b => b = gL) W1 wr ∧ wr.heap[gL]? = some (.cells (ints .u8 (padTo (64 * N) (bs.take (64 * i)))) 65 (0, 0))) (fun v _ => N - (intOf v).toNat)
  case atStart => exact ⟨0, Nat.zero_le _, rfl, Keeps.refl _ _, a5⟩
  case round =>
    obtain ⟨i, hi, rfl, hk, hL⟩ := hrel
    have hN2 : N ≤ 80 := by omega
    by_cases hlt : i < N
    · have d4 := (hk.block d (blk_lt a4) ndL).trans a4
      have e0 := (six d4).1
      have him : i * 64 < m := by omega
      have hw3 : wrap64 ((i : Int) * 64) = (i : Int) * 64 := wrap64_of (by omega) (by omega)
      have hbr : BytesAt wr.drew W.heap.size A m bs := hb.below ((hB1.trans (hk.below (B := W.heap.size) (fun b e => by rw [e]; exact hgLW) hB1.size)).drew)
      obtain ⟨b0, off, rfl, hb0, hcell⟩ := hbr.2.2 (by omega)
      have hdr := hbr.drop (k := i * 64) (c := c) (by omega) hmc
      have hpad : (padTo (64 * N) (bs.take (64 * i))).length = 64 * N := padTo_length _ _
      have hcp := fun ty A' c' (h : BytesAt wr.drew W.heap.size A' (m - i * 64) (bs.drop (i * 64))) => run_copy_sec (W := wr.drew) (ty := ty) (dc := 64) (c := c') hL (i := i) (by omega) h (by omega)
      have Hp := Lib.hid (pad_step (bs := bs) (n := N) (i := i) (by omega) hlt)
      have i1 : (i : Int) * 64 ≤ (m : Int) := by omega
      have i2 : (0 : Int) ≤ (i : Int) * 64 := by omega
      have hw4 : IntKind.i64.wrap ((i : Int) * 64) = (i : Int) * 64 := by rw [IntKind.wrap_i64]; omega
      have hw5 : ((i : Int) * 64).toNat = i * 64 := by omega
      have hne : ¬ c = i * 64 := by omega
      clear a4 a5 a6 a7 hcell c0 c1 c2 c3 c4 c5 hD1 h0 hb
      go_wp2_with fail
      refine wp_region_still_tail 11 (by kernel_rfl) (by kernel_rfl) ?_
      simp only [List.take_succ_cons, List.take_zero, List.drop_succ_cons, List.drop_zero]
      change wpStill _ _ wr.drew _ _ _
      still_step
      still_step
      still_step
      still_step
      still_step
      still_step
      still_step
      still_step
      still_step
      still_step
      still_step
      refine wpStill_nil ?_
      change wpList _ _ _ _ _ wr.drew
      have hsl : BytesAt wr.drew W.heap.size (some ⟨b0, off + i * 64, none⟩) (m - i * 64) (bs.drop (i * 64)) := by
        rw [if_neg hne] at hdr
        simpa [Addr.add_mid] using hdr
      have hcp' := fun ty => hcp ty _ (c - i * 64) hsl
      rw [Nat.mul_comm i 64, Hp.out, Nat.mul_comm 64 i] at hcp'
      refine list_runs (by rfl) (runs_copy rfl rfl rfl (hcp' _)) ?_
      clear hcp hcp'
      try simp only [Act.put, List.getElem_toArray, List.getElem_cons_zero, List.getElem_cons_succ, List.setIfInBounds_toArray, List.set_cons_succ, List.set_cons_zero]
      go_wp2_with fail
      exact ⟨⟨i + 1, by omega, by go_num, (hk.trans (Keeps.of_below (F := fun b => b = gL) (Below.refl _ _).drew) (fun b _ h => h)).setRow rfl _, setRow_heap wr.drew gL _ _ 65 (0, 0) hL⟩, by simp [intOf]; omega⟩
    · obtain rfl : i = N := by omega
      have hfin : padTo (64 * i) (bs.take (64 * i)) = padTo (64 * i) bs := by rw [List.take_of_length_le (by omega)]
      rw [hfin] at hL
      have hB : Below W.heap.size W wr := hB1.trans (hk.below (B := W.heap.size) (fun b e => by rw [e]; exact hgLW) hB1.size)
      have h0n := h0.n
      have h0q := h0.queue
      have h0c := h0.cache
      have fin : DiskAt F wr d (ofDk bs) := by
        rw [hof]
        refine ⟨⟨h0.n, ?_, padTo_range _ hb.2.1, h0.cache, h0.queue, h0.room, h0.armed, h0.acts⟩, fun b hf => Nat.lt_of_lt_of_le (h1 b hf) hk.size, h2, gL, gM, vQ, a1, a2, a3, ?_, hL, a6.kept hk.size (hk.block gM (by have := h1 gM a2; exact this) nM), ownsRow_same a7 (fun k hk' hl => hk.block k hl (fun e => nQ (by rw [hk', e])))⟩
        · show (padTo (64 * i) bs).length = 64 * (newDk (i : Int)).n
          rw [padTo_length, hnn]
        · rw [show ({ newDk (i : Int) with L := padTo (64 * i) bs } : Dk).n = i from hnn]
          exact (hk.block d (blk_lt a4) ndL).trans a4
      clear a4 a5 a6 a7 h0 h0n h0q h0c hof hD1 c0 c1 c2 c3 c4 c5
      go_wp2_with fail
      go_ret
      exact ⟨hB, d, F, rfl, hF, fin⟩
end Go.Proofs.Ytpllifppjlakpaa.Dk
