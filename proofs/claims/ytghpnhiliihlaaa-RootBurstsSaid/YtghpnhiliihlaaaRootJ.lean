/-
  root: chapter 3's example.
-/
import Derived.Test.YtghpnhiliihlaaaRootI
namespace Go.Proofs.Ytghpnhiliihlaaa.Root
open Go.RowKit Go.Shelf Go.Proofs.Ytghpnhiliihlaaa
open Go.Proofs.YtghpnhiliihlaaaW.PrintWords (Kd)
attribute [local go_sem] Oper.semAt_some
set_option linter.unusedVariables false
set_option linter.unusedSimpArgs false

/-- A root's numbers are of their kinds. -/
def rootWf (g : Int) (l : List S63) : Prop := 0 ≤ g ∧ g < 18446744073709551616 ∧ ∀ j, j < l.length → 0 ≤ (l.getD j z63).f0 ∧ (l.getD j z63).f0 < 18446744073709551616
theorem enc_rec {g : Int} {l : List S63} (hok : okRoot g l) (hw : rootWf g l) : recOk (encR g l) ∧ decG (encR g l) = g ∧ decL (encR g l) = l ∧ decE (encR g l) = 0 := by
  obtain ⟨h1, h2, h3⟩ := dec_enc g l hw.1 hw.2.1 hok.2.1 (fun j hj => ⟨(hw.2.2 j hj).1, (hw.2.2 j hj).2, (hok.2.2 j hj).1, (hok.2.2 j hj).2.2.1⟩)
  have hr : recOk (encR g l) := rec_of_rdec (encR_range g l) ⟨encR_length g l, by rw [h2]; exact hok.2.1, by rw [h1, h2, h3]; exact hok, by rw [h1, h2, h3]⟩
  exact ⟨hr, by rw [decG_yes hr, h1], by rw [decL_yes hr, h2, h3], decE_yes hr⟩
def exL : List S63 := [⟨2, 9⟩]
theorem ex_ok : okRoot 2 exL := by
  refine ⟨by decide, by decide, fun i hi => ?_⟩
  obtain rfl : i = 0 := by have : exL.length = 1 := rfl; omega
  exact ⟨by decide, by decide, by decide, by decide, fun h => absurd h (Nat.lt_irrefl 0)⟩
theorem ex_wf : rootWf 2 exL := by
  refine ⟨by decide, by decide, fun i hi => ?_⟩
  obtain rfl : i = 0 := by have : exL.length = 1 := rfl; omega
  exact ⟨by decide, by decide⟩
theorem ex_14 : (encR 2 exL)[14]?.getD 0 = 2 := enc_gen (g := 2) (l := exL) (by decide) 0 0 (by decide) (by decide)
theorem ex_22 : (encR 2 exL)[22]?.getD 0 = 9 := enc_top (g := 2) (l := exL) (by decide) 0 0 (by decide) (by decide)
theorem ex_snaps (w : World) : SnapsAt (w.alloc (.cells #[.int .u64 2, .int .i64 9] 63)) (some ⟨w.heap.size, 0, none⟩) exL := by
  refine ⟨rfl, by decide, fun _ => ⟨_, rfl, fun j p hj => ?_⟩⟩
  obtain rfl : j = 0 := by
    rcases j with _ | j
    · rfl
    · cases hj
  have hp : p = ⟨2, 9⟩ := (Option.some.inj hj).symm
  subst hp
  refine ⟨[.int .u64 2, .int .i64 9], rfl, PRootReads.k63_mk _ _, fun i u hu => ?_⟩
  have hh := heap_alloc_new w (.cells #[.int .u64 2, .int .i64 9] 63)
  rcases i with _ | _ | i
  · have : u = .int .u64 2 := (Option.some.inj hu).symm
    subst this
    exact cell_of_row _ _ 0 _ _ _ hh
  · have : u = .int .i64 9 := (Option.some.inj hu).symm
    subst this
    exact cell_of_row _ _ 1 _ _ _ hh
  · cases hu
theorem nil_bytes (w : World) (B : Nat) : BytesAt w B none 0 [] := ⟨rfl, by simp, by omega⟩
theorem not_rec_nil : ¬ recOk [] := fun h => by have := h.len; simp at this
set_option maxRecDepth 100000 in
set_option maxHeartbeats 2000000 in
theorem rootAwake_any (w : World) : Calls Try.prog 29 #[] w fun e w' => e = .returned (.bool true) ∧ Below w.heap.size w w' := by
  obtain ⟨x1, x2, x3, x4⟩ := enc_rec ex_ok ex_wf
  have hch := ch_yes (a := []) (b := encR 2 exL) ⟨x4, .inl (by rw [decE_no not_rec_nil]; decide)⟩
  go_enter Try.func29, Try.ntmps29
  go_wp2_with fail
  have hb0 : Below w.heap.size w (w.alloc (.cells #[.int .u64 2, .int .i64 9] 63)) := (Below.refl _ _).alloc (Nat.le_refl _) _
  refine (encode_yes 2 (some ⟨w.heap.size, 0, none⟩) 1 exL _ (ex_snaps w) (by decide) (by decide) ex_ok).mono ?_
  rintro e W1 ⟨⟨A1, c1, rfl, ho1⟩, hb1⟩
  have hbA : Below w.heap.size w W1 := hb0.trans (hb1.mono hb0.size)
  have hB := ho1.at_ (encR_range 2 exL)
  have hcap := ho1.cap
  obtain ⟨b, off, rfl, hlt, hcell⟩ := hB.2.2 (by decide)
  have q1 := hcell 14 (by decide)
  have q2 := hcell 22 (by decide)
  rw [ex_14] at q1
  rw [ex_22] at q2
  have HB := Lib.hid hB
  clear hcell ho1 hb1 hb0 hB
  go_wp2_with fail
  refine (decode_is _ 64 c1 _ W1 HB.out hcap (by decide)).mono ?_
  rintro e W2 ⟨hb2, v2, rfl, A2, c2, rfl, ho2⟩
  rw [x2, x3, x4]
  have hx2 : (W2.alloc (.cells #[.int .u64 2, .slice A2 exL.length c2] 40)).heap[W2.heap.size]? = some (.cells #[.int .u64 2, .slice A2 exL.length c2] 40 (0, 0)) := heap_alloc_new _ _
  have hb3 : Below W1.heap.size W1 (W2.alloc (.cells #[.int .u64 2, .slice A2 exL.length c2] 40)) := hb2.alloc hb2.size _
  go_wp2_with fail
  generalize W2.alloc (.cells #[.int .u64 2, .slice A2 exL.length c2] 40) = W3 at hx2 hb3 ⊢
  generalize W2.heap.size = g2 at hx2 ⊢
  refine (choose_any none _ 0 0 64 c1 [] _ W3 (nil_bytes _ _) (Nat.le_refl _) (by decide) ((HB.out.below hb3).more hb3.size) hcap (by decide)).mono ?_
  rintro e W4 ⟨hb4, v4, rfl, A4, c4, rfl, ho4⟩
  obtain ⟨y1, y2, y3, y4⟩ := hch
  rw [y1, y2, y3, y4, x2, x3]
  have hx4 := blk_below hx2 hb4 (blk_lt hx2)
  have hx5 : (W4.alloc (.cells #[.int .u64 2, .slice A4 exL.length c4] 40)).heap[g2]? = some (.cells #[.int .u64 2, .slice A2 exL.length c2] 40 (0, 0)) := blk_alloc hx4 _
  have q3 : (W4.alloc (.cells #[.int .u64 2, .slice A4 exL.length c4] 40)).cell? ⟨g2, 0, none⟩ = some (.int .u64 2) := cell_of_row _ _ 0 _ _ _ hx5
  have hbw : Below w.heap.size w (W4.alloc (.cells #[.int .u64 2, .slice A4 exL.length c4] 40)) := (hbA.trans ((hb3.mono hbA.size).trans (hb4.mono (Nat.le_trans hbA.size hb3.size)))).alloc (Nat.le_trans hbA.size (Nat.le_trans hb3.size hb4.size)) _
  clear hx2 hx4 hx5 hb2 hb3 hb4 ho2 ho4 hbA HB
  go_wp2_with fail
  go_ret
  exact ⟨rfl, hbw⟩
end Go.Proofs.Ytghpnhiliihlaaa.Root
