/-
  disk: the reference's Of.
-/
import Derived.Test.YtpllifppjlakpaaDlA
namespace Go.Proofs.Ytpllifppjlakpaa.Dk
open Go.RowKit Go.Shelf Go.Proofs.Ytpllifppjlakpaa
attribute [local go_sem] Oper.semAt_some
set_option linter.unusedVariables false
set_option linter.unusedSimpArgs false
def partOf (bs : List Int) (j : Nat) : List Int := padTo 64 ((bs.drop (64 * j)).take 64)
/-- The sectors, when i of them are filled. -/
def fillTo (bs : List Int) (i : Nat) (j : Nat) : List Int := if j < i then partOf bs j else nots 64
theorem part_len (bs : List Int) (j : Nat) : (partOf bs j).length = 64 := padTo_length _ _
theorem fill_len (bs : List Int) (i j : Nat) : (fillTo bs i j).length = 64 := by
  unfold fillTo
  split
  · exact part_len bs j
  · simp [nots]
theorem padTo_get (n : Nat) (b : List Int) {i : Nat} (hi : i < n) : (padTo n b)[i]? = some ((b[i]?).getD 0) := by
  unfold padTo nots
  by_cases h : i < b.length
  · rw [List.getElem?_append_left (by rw [List.length_take]; omega), List.getElem?_take_of_lt hi, List.getElem?_eq_getElem h]
    rfl
  · rw [List.getElem?_append_right (by rw [List.length_take]; omega), List.getElem?_eq_none (l := b) (by omega), List.getElem?_replicate, if_pos (by rw [List.length_take]; omega)]
    rfl
theorem secOf_pad (bs : List Int) {N j : Nat} (hj : j < N) : secOf (padTo (64 * N) bs) j = partOf bs j := by
  have h1 : (secOf (padTo (64 * N) bs) j).length = 64 := secOf_length (padTo_length _ _) hj
  apply List.ext_getElem?
  intro i
  by_cases hi : i < 64
  · unfold secOf partOf
    rw [List.getElem?_take_of_lt hi, List.getElem?_drop, padTo_get _ _ (by omega), padTo_get _ _ hi, List.getElem?_take_of_lt hi, List.getElem?_drop]
  · rw [List.getElem?_eq_none (by omega), List.getElem?_eq_none (by rw [part_len]; omega)]
theorem part_splice (bs : List Int) (j : Nat) : splice (nots 64) (64 * 0) ((bs.drop (64 * j)).take 64) = partOf bs j := by
  have h : ((bs.drop (64 * j)).take 64).length ≤ 64 := by rw [List.length_take]; omega
  unfold partOf
  generalize (bs.drop (64 * j)).take 64 = Y at h
  unfold splice padTo nots
  rw [List.take_of_length_le h, Nat.mul_zero, Nat.zero_add, List.take_zero, List.nil_append, List.drop_replicate]
theorem ofDk_ok {bs : List Int} (hb : isBytes bs) (hm : bs.length ≤ 5000) : DkOk (ofDk bs) := by
  have hn : (newDk (((bs.length + 63) / 64 : Nat) : Int)).n = (bs.length + 63) / 64 := by show (min (max (((bs.length + 63) / 64 : Nat) : Int) 0) 2000).toNat = _; omega
  have h0 := new_ok (((bs.length + 63) / 64 : Nat) : Int)
  refine ⟨h0.n, ?_, padTo_range _ hb, h0.cache, h0.queue, h0.room, h0.armed, h0.acts⟩
  show (padTo (64 * ((bs.length + 63) / 64)) bs).length = 64 * (newDk _).n
  rw [padTo_length, hn]
theorem rof_step {B : Nat} {W : World} {d n : Nat} {vS : Value} {bl : List Nat} {bs : List Int} {i : Nat} (h : NewIn B W d n (fillTo bs i) vS bl) (hi : i < bl.length) :
    NewIn B (W.setRow bl[i] (ints .u8 (partOf bs i))) d n (fillTo bs (i + 1)) vS bl ∧ Below B W (W.setRow bl[i] (ints .u8 (partOf bs i))) := by
  obtain ⟨h1, h2⟩ := h.secs i hi
  have hk : ∀ b, b ≠ bl[i] → (W.setRow bl[i] (ints .u8 (partOf bs i))).heap[b]? = W.heap[b]? := fun b hb => by
    exact setRow_other W bl[i] b _ hb
  have hs := setRow_heap W bl[i] _ (ints .u8 (partOf bs i)) 5 (0, 0) h1
  have hd : d ≠ bl[i] := fun e => absurd (blk_type (e ▸ h.head) h1) (by decide)
  refine ⟨⟨(hk d hd).trans h.head, h.hd, h.len, ownsRow_same h.row (fun b hb _ => hk b (fun e => ?_)), fun j hj => ?_, h.one⟩, ?_⟩
  · subst e
    obtain ⟨cl, hh⟩ := ownsRow_type h.row hb
    exact absurd (blk_type h1 hh) (by decide)
  · by_cases hij : j = i
    · subst hij
      refine ⟨?_, h2⟩
      rw [hs]
      unfold fillTo
      rw [if_pos (by omega)]
    · refine ⟨(hk _ (fun e => hij (h.one j i hj hi e))).trans ?_, (h.secs j hj).2⟩
      have e : fillTo bs (i + 1) j = fillTo bs i j := by
        unfold fillTo
        by_cases hl : j < i
        · rw [if_pos hl, if_pos (by omega)]
        · rw [if_neg hl, if_neg (by omega)]
      rw [e]
      exact (h.secs j hj).1
  · exact ⟨rfl, rfl, rfl, by simp, fun b hb => hk b (by omega)⟩
set_option maxHeartbeats 1000000 in
theorem rof_any {A : Option Addr} {m c : Nat} {bs : List Int} {W : World} (hb : BytesAt W W.heap.size A m bs) (hmc : m ≤ c) (hm : m ≤ 5000) :
    Calls Try.prog 25 #[.slice A m c] W fun e W' => Below W.heap.size W W' ∧ ∃ d G, e = .returned (.pointer (some ⟨d, 0, none⟩)) ∧ (∀ b, G b → W.heap.size ≤ b) ∧ RefAt G W' d (ofDk bs) := by
  have hml := hb.1
  go_enter Try.func25, Try.ntmps25
  go_wp2_with fail
  all_goals
    have hcall : ∃ N : Nat, (m + 63) / 64 = N ∧ N ≤ 79 := ⟨_, rfl, by omega⟩
    obtain ⟨N, hN, hN79⟩ := hcall
    have hcall := fun k (hk : k = (N : Int)) => hk ▸ rnew_walk N (by omega) W
    refine (hcall _ (by omega)).mono ?_
    clear hcall
    rintro e W1 ⟨hB1, d, vS, bl, rfl, hin⟩
    have hbl := hin.len
    obtain ⟨A1, c1, rfl, -⟩ := slice_form hin.row
    obtain ⟨c0, -⟩ := five hin.head
    have hin0 : NewIn W.heap.size W1 d N (fillTo bs 0) (.slice A1 N c1) bl := ⟨hin.head, hin.hd, hin.len, hin.row, fun j hj => by
      have := hin.secs j hj
      unfold fillTo
      rw [if_neg (Nat.not_lt_zero j)]
      exact this, hin.one⟩
    clear hin
    go_wp2_with fail
    clear c0
    go_loopw [22] (fun v wr => ∃ i : Nat, i ≤ N ∧ v = .int .i64 i ∧ NewIn W.heap.size wr d N (fillTo bs i) (.slice A1 N c1) bl ∧ Below W.heap.size W wr) (fun v _ => N - (intOf v).toNat)
    case atStart => exact ⟨0, Nat.zero_le _, rfl, hin0, hB1⟩
    case round =>
      clear hin0 hB1
      obtain ⟨i, hi, rfl, hin, hbw⟩ := hrel
      by_cases hlt : i < N
      · have hib : i < bl.length := by omega
        obtain ⟨h5, h5B⟩ := hin.secs i hib
        obtain ⟨gS, cS, e, hcS, hbS, hcell⟩ := row_cell hin.row (by omega)
        injection e with e1 _ e3
        subst e1; subst e3
        have d4 := hin.head
        have e0 : wr.drew.cell? ⟨d, 0, none⟩ = _ := (five d4).1
        have e5 : wr.drew.cell? ⟨gS, i, none⟩ = some (hval (bl[i], 64)) := hcell i _ (by rw [List.getElem?_map, List.getElem?_eq_getElem hib]; rfl)
        unfold hval at e5
        have him : i * 64 < m := by omega
        have hw3 : wrap64 ((i : Int) * 64) = (i : Int) * 64 := wrap64_of (by omega) (by omega)
        have hbr : BytesAt wr.drew W.heap.size A m bs := hb.below hbw.drew
        obtain ⟨b0, off, rfl, hb0, hcellb⟩ := hbr.2.2 (by omega)
        have hdr := hbr.drop (k := i * 64) (c := c) (by omega) hmc
        have hfl : (fillTo bs i i) = nots 64 := by unfold fillTo; rw [if_neg (by omega)]
        rw [hfl] at h5
        have hcp := fun ty A' c' (h : BytesAt wr.drew W.heap.size A' (m - i * 64) (bs.drop (i * 64))) => run_copy_sec (W := wr.drew) (ty := ty) (dc := 64) (c := c') (L := nots 64) (t := 5) (g := bl[i]) h5 (i := 0) (by rw [nots_sec.1]; omega) h (by omega)
        obtain ⟨hin', hb'⟩ := rof_step (W := wr.drew) (bs := bs) (i := i) ⟨hin.head, hin.hd, hin.len, hin.row, hin.secs, hin.one⟩ hib
        have hB := hbw.drew.trans hb'
        have Hp := Lib.hid (part_splice bs i)
        have i1 : (i : Int) * 64 ≤ (m : Int) := by omega
        have i2 : (0 : Int) ≤ (i : Int) * 64 := by omega
        have hw4 : IntKind.i64.wrap ((i : Int) * 64) = (i : Int) * 64 := by rw [IntKind.wrap_i64]; omega
        have hw5 : ((i : Int) * 64).toNat = i * 64 := by omega
        have hne : ¬ c = i * 64 := by omega
        have Hbl := Lib.hid hbl
        generalize hgb : bl[i] = gb at *
        have Hgb := Lib.hid hgb
        clear hgb hbl hin hb' hcell hcellb hfl h5 d4 hb hb0 hbr
        go_wp2_with fail
        refine wp_region_still_tail 11 (by kernel_rfl) (by kernel_rfl) ?_
        simp only [List.take_succ_cons, List.take_zero, List.drop_succ_cons, List.drop_zero]
        change wpStill _ _ wr.drew _ _ _
        still_step
        still_step
        still_step
        still_step
        still_step
        still_step
        still_step
        still_step
        still_step
        still_step
        still_step
        refine wpStill_nil ?_
        change wpList _ _ _ _ _ wr.drew
        have hsl : BytesAt wr.drew W.heap.size (some ⟨b0, off + i * 64, none⟩) (m - i * 64) (bs.drop (i * 64)) := by
          rw [if_neg hne] at hdr
          simpa [Addr.add_mid] using hdr
        have hcp' := fun ty => hcp ty _ (c - i * 64) hsl
        rw [Nat.mul_comm i 64, Hp.out, Nat.mul_comm 64 i] at hcp'
        refine list_runs (by rfl) (runs_copy rfl rfl rfl (hcp' _)) ?_
        clear hcp hcp'
        try simp only [Act.put, List.getElem_toArray, List.getElem_cons_zero, List.getElem_cons_succ, List.setIfInBounds_toArray, List.set_cons_succ, List.set_cons_zero]
        go_wp2_with fail
        exact ⟨⟨i + 1, by omega, by go_num, hin', hB⟩, by simp [intOf]; omega⟩
      · obtain rfl : i = N := by omega
        go_wp2_with fail
        go_ret
        refine ⟨hbw, d, _, rfl, fun b hb => hb.1, hin.ref (ofDk_ok hb.2.1 (by omega)) ?_ (fun j hj => ?_) rfl rfl rfl rfl⟩
        · show (min (max (((bs.length + 63) / 64 : Nat) : Int) 0) 2000).toNat = _
          omega
        · show secOf (padTo (64 * ((bs.length + 63) / 64)) bs) j = _
          rw [secOf_pad bs (by omega)]
          unfold fillTo
          rw [if_pos hj]
end Go.Proofs.Ytpllifppjlakpaa.Dk
