/-
  disk: Read, the reference's and the code's, all answers.
-/
import Derived.Test.YtpllifppjlakpaaDkT
namespace Go.Proofs.Ytpllifppjlakpaa.Dk
open Go.RowKit Go.Shelf Go.Proofs.Ytpllifppjlakpaa
attribute [local go_sem] Oper.semAt_some
set_option linter.unusedVariables false
set_option linter.unusedSimpArgs false
def readTot (s : Dk) (n : Int) : List Int × Int := if s.off = true then ([], 20) else if n < 0 ∨ (s.n : Int) ≤ n then ([], 1) else (secOf (applyQ s.L s.Q) n.toNat, 0)
def ReadsAs (W W' : World) (e : Ending) (s : Dk) (n : Int) : Prop := ∃ A c, e = .returned (.tuple #[.slice A (readTot s n).1.length c, .int .i64 (readTot s n).2]) ∧ BytesAt W' W'.heap.size A (readTot s n).1.length (readTot s n).1
theorem nil_bytes (W : World) : BytesAt W W.heap.size none 0 [] := ⟨rfl, by simp, fun h => absurd h (Nat.lt_irrefl 0)⟩
theorem apply_take {L : List Int} {Q : List (Nat × List Int)} {i : Nat} (hi : i < Q.length) : applyQ L (Q.take (i + 1)) = splice (applyQ L (Q.take i)) (64 * Q[i].1) Q[i].2 := by
  rw [List.take_succ_eq_append_getElem hi]
  unfold applyQ
  rw [List.foldl_append]
  rfl
theorem read_step {s : Dk} (hok : DkOk s) {i k : Nat} (hi : i < s.Q.length) (hk : k < s.n) : secOf (applyQ s.L (s.Q.take (i + 1))) k = if s.Q[i].1 = k then s.Q[i].2 else secOf (applyQ s.L (s.Q.take i)) k := by
  have hq := hok.queue _ (List.getElem_mem hi)
  rw [apply_take hi, secOf_splice (applyQ_length (s.Q.take i) hok.len (fun q hq => hok.queue q (List.mem_of_mem_take hq))) hq.2.1 hq.1 hk]
  by_cases h : s.Q[i].1 = k
  · rw [if_pos h.symm, if_pos h]
  · rw [if_neg (fun e => h e.symm), if_neg h]
theorem row_cell {W : World} {v : Value} {n : Nat} {xs : List Value} {b0 e sz : Nat} (h : W.ownsRow b0 e sz v n xs) (hn : 0 < n) : ∃ g c, v = .slice (some ⟨g, 0, none⟩) n c ∧ n ≤ c ∧ v.ownBlock = some g ∧ ∀ j u, xs[j]? = some u → W.cell? ⟨g, j, none⟩ = some u := by
  rcases h.2 with ⟨rfl, hn0⟩ | ⟨g, cap, cur, rfl, _, _, hnc, _⟩
  · omega
  · refine ⟨g, cap, rfl, hnc, rfl, fun j u hj => ?_⟩
    have := h.cells (g := g) rfl j u hj
    rw [Addr.add_mid, Nat.zero_add] at this
    exact this
theorem wait_cells {ws : List (Nat × (Nat × Nat))} {i : Nat} (hi : i < ws.length) : (ws.flatMap wval)[i * 2]? = some (.int .i64 ((ws[i].1 : Nat) : Int)) ∧ (ws.flatMap wval)[i * 2 + 1]? = some (hval ws[i].2) := by
  induction ws generalizing i with
  | nil => exact absurd hi (Nat.not_lt_zero i)
  | cons w ws ih =>
    cases i with
    | zero => exact ⟨rfl, rfl⟩
    | succ i =>
      have := ih (i := i) (by simpa using hi)
      rw [List.flatMap_cons, show (i + 1) * 2 = i * 2 + 2 by omega]
      exact this
theorem slice_form {W : World} {v : Value} {n : Nat} {xs : List Value} {b0 e sz : Nat} (h : W.ownsRow b0 e sz v n xs) : ∃ A c, v = .slice A n c ∧ n ≤ c := by
  rcases h.2 with ⟨rfl, hn0⟩ | ⟨g, cap, cur, rfl, _, _, hnc, _⟩
  · exact ⟨none, 0, by rw [hn0], by omega⟩
  · exact ⟨_, _, rfl, hnc⟩
set_option maxHeartbeats 2000000 in
theorem rread_ok {G : Nat → Prop} {W : World} {d : Nat} {s : Dk} (h : RefAt G W d s) (hoff : s.off = false) (k : Nat) (hk : k < s.n) :
    Calls Try.prog 36 #[.pointer (some ⟨d, 0, none⟩), .int .i64 k] W fun e W' => Below W.heap.size W W' ∧ ∃ A c, e = .returned (.tuple #[.slice A 64 c, .int .i64 0]) ∧ BytesAt W' W'.heap.size A 64 (secOf (applyQ s.L s.Q) k) := by
  have hhas := has_any h (k : Int)
  rw [decide_eq_true ⟨by omega, by omega⟩] at hhas
  obtain ⟨h0, h1, h2, vS, vW, hs, ws, hd, hi⟩ := id h
  obtain ⟨c0, c1, c2, c3, c4⟩ := five hd
  obtain ⟨gS, cS, rfl, hcS, hbS, hcellS⟩ := row_cell hi.row (by omega)
  obtain ⟨AW, cW, rfl, hcW⟩ := slice_form hi.wrow
  have hkl : k < hs.length := by rw [hi.hlen]; exact hk
  have hks := hcellS k (hval hs[k]) (by rw [List.getElem?_map, List.getElem?_eq_getElem hkl]; rfl)
  have hsk := (hi.secs k hkl).1
  have hroom := h0.room
  have hn2 := h0.n
  rw [hoff] at c3
  unfold hval at hks
  go_enter Try.func36, Try.ntmps36
  go_wp2_with fail
  refine hhas.mono ?_
  rintro e W' ⟨rfl, rfl⟩
  have hwl := hi.wlen
  have hsW : ∀ (w : World), Below W.heap.size W w → ∀ h x, Sec5 W h x → Sec5 w h x := fun w hw h x hh => hh.keep (hw.block _ hh.lt)
  clear hhas hcellS
  go_wp2_with fail
  go_loopw [6, 29] (fun v6 v wr => ∃ i : Nat, i ≤ s.Q.length ∧ v = .int .i64 i ∧ (∃ hh, v6 = hval hh ∧ Sec5 wr hh (secOf (applyQ s.L (s.Q.take i)) k)) ∧ Below W.heap.size W wr) (fun _ v _ => s.Q.length - (intOf v).toNat)
  case atStart => exact ⟨0, Nat.zero_le _, rfl, ⟨hs[k], rfl, hsk⟩, Below.refl _ _⟩
  case round =>
    obtain ⟨i, hile, rfl, ⟨hh, rfl, hsec⟩, hb⟩ := hrel
    by_cases hlt : i < s.Q.length
    · have hiw : i < ws.length := by omega
      obtain ⟨gW, cW', e, -, hbW, hcellW⟩ := row_cell hi.wrow (by omega)
      injection e with e _ _
      subst e
      obtain ⟨w1, w2⟩ := wait_cells hiw
      have w1 := hcellW _ _ w1
      have w2 := hcellW _ _ w2
      have hgl := World.block_lt_of_cell? W _ w1
      have w1 := (World.cell?_of_block (a := ⟨gW, i * 2, none⟩) (hb.block gW hgl)).trans w1
      have w2 := (World.cell?_of_block (a := ⟨gW, i * 2 + 1, none⟩) (hb.block gW hgl)).trans w2
      obtain ⟨e1, e2, -⟩ := hi.wsecs i hiw hlt
      have hstep := read_step h0 hlt hk
      rw [← e1] at hstep
      have hsq := hsW wr hb _ _ e2
      unfold hval at w2 ⊢
      have hba : ∀ o, Below W.heap.size W (wr.alloc o) := fun o => hb.alloc hb.size o
      have hst : ∀ o h x, Sec5 wr h x → Sec5 (wr.alloc o) h x := fun o h x hh => hh.keep (Below.heap_alloc _ _ _ hh.lt)
      clear hcellW hi hd h0 h1 h2 h hsk c0 c1 c2 c4 hks
      generalize ws[i] = w at w1 w2 hstep hsq
      obtain ⟨wn, wb, wc⟩ := w
      generalize s.Q[i].2 = zq at hstep hsq
      have Hst := Lib.hid hst
      clear hst hsW e1 e2 hwl
      by_cases hq : wn = k
      · subst hq
        have hqb : (((wn : Nat) : Int) == ((wn : Nat) : Int)) = true := beq_iff_eq.2 rfl
        rw [if_pos rfl] at hstep
        have Hstep := Lib.hid hstep
        clear hstep
        go_wp2_with fail
        exact ⟨⟨i + 1, by omega, by go_num, ⟨(wb, wc), rfl, by rw [Hstep.out]; exact Hst.out _ _ _ hsq⟩, hba _⟩, by simp [intOf]; omega⟩
      · have hqb : (((wn : Nat) : Int) == ((k : Nat) : Int)) = false := beq_eq_false_iff_ne.2 (by omega)
        rw [if_neg hq] at hstep
        have Hstep := Lib.hid hstep
        clear hstep
        go_wp2_with fail
        exact ⟨⟨i + 1, by omega, by go_num, ⟨hh, rfl, by rw [Hstep.out]; exact Hst.out _ _ _ hsec⟩, hba _⟩, by simp [intOf]; omega⟩
    · obtain rfl : i = s.Q.length := by omega
      rw [List.take_length] at hsec
      unfold hval
      have hxs := hsec.1
      have hbt := hsec.bytes
      obtain ⟨hb1, hb2⟩ := hh
      clear hsW hwl hi hd h0 h1 h2 h hsk c0 c1 c2 c3 c4 hks hile hroom hsec
      go_wp2_with (refine wpL_app (by rfl) (.const (.slice none 0 0)) (.tmp 40) rfl W.heap.size (.slice none 0 0) [] rfl (World.ownsRow_nil _ _ _ _) wr.heap.size _ _ _ (secOf (applyQ s.L s.Q) k) rfl hbt (by show 0 + 64 ≤ _; decide) hb.size ?_; intro A' c' w' ho' hg' hbl')
      rw [List.nil_append] at ho'
      have hB : Below W.heap.size W w' := hb.trans ⟨hg'.os, hg'.tape, hg'.output, hg'.size, fun b hb' => hg'.block b (by have := hb.size; omega) (fun e => by cases e)⟩
      rw [hxs.1] at ho' ⊢
      clear hbt hbl' hg'
      go_ret2
      exact ⟨hB, A', ⟨c', rfl⟩, ho'.at_ hxs.2⟩
theorem rread_all {G : Nat → Prop} {W : World} {d : Nat} {s : Dk} (h : RefAt G W d s) (n : Int) :
    Calls Try.prog 36 #[.pointer (some ⟨d, 0, none⟩), .int .i64 n] W fun e W' => Below W.heap.size W W' ∧ ReadsAs W W' e s n := by
  by_cases hoff : s.off = true
  · have e : readTot s n = ([], 20) := by unfold readTot; rw [if_pos hoff]
    unfold ReadsAs
    rw [e]
    obtain ⟨h0, h1, h2, vS, vW, hs, ws, hd, hi⟩ := id h
    obtain ⟨c0, c1, c2, c3, c4⟩ := five hd
    rw [hoff] at c3
    clear hi
    go_enter Try.func36, Try.ntmps36
    go_wp2_with fail
    go_ret2
    exact ⟨Below.refl _ _, none, 0, rfl, nil_bytes _⟩
  · have hof : s.off = false := by cases ho : s.off <;> simp_all
    by_cases hr : n < 0 ∨ (s.n : Int) ≤ n
    · have e : readTot s n = ([], 1) := by unfold readTot; rw [if_neg hoff, if_pos hr]
      unfold ReadsAs
      rw [e]
      have hhas := has_any h n
      rw [decide_eq_false (by omega)] at hhas
      obtain ⟨h0, h1, h2, vS, vW, hs, ws, hd, hi⟩ := id h
      obtain ⟨c0, c1, c2, c3, c4⟩ := five hd
      rw [hof] at c3
      clear hi
      go_enter Try.func36, Try.ntmps36
      go_wp2_with fail
      refine hhas.mono ?_
      rintro e W' ⟨rfl, rfl⟩
      go_wp2_with fail
      go_ret2
      exact ⟨Below.refl _ _, none, 0, rfl, nil_bytes _⟩
    · obtain ⟨k, rfl⟩ := Int.eq_ofNat_of_zero_le (show 0 ≤ n by omega)
      have hk : k < s.n := by omega
      have e : readTot s (k : Int) = (secOf (applyQ s.L s.Q) k, 0) := by unfold readTot; rw [if_neg hoff, if_neg hr, Int.toNat_natCast]
      refine (rread_ok h hof k hk).mono ?_
      rintro e' W' ⟨hb, A, c, rfl, hx⟩
      refine ⟨hb, A, c, ?_, ?_⟩
      · rw [e, hx.1]
      · rw [e, hx.1]; exact hx
theorem read_all {F : Nat → Prop} {W : World} {d : Nat} {s : Dk} (h : DiskAt F W d s) (hh : Holds s) (n : Int) (hn : -9223372036854775808 ≤ n ∧ n ≤ 9223372036854775807) :
    Calls Try.prog 16 #[.pointer (some ⟨d, 0, none⟩), .int .i64 n] W fun e W' => Below W.heap.size W W' ∧ ReadsAs W W' e s n := by
  have hu := up_any h
  by_cases hoff : s.off = true
  · have e : readTot s n = ([], 20) := by unfold readTot; rw [if_pos hoff]
    unfold ReadsAs
    rw [e]
    rw [hoff] at hu
    go_enter Try.func16, Try.ntmps16
    go_wp2_with fail
    refine hu.mono ?_
    rintro e W' ⟨rfl, rfl⟩
    go_wp2_with fail
    go_ret2
    exact ⟨Below.refl _ _, none, 0, rfl, nil_bytes _⟩
  · have hof : s.off = false := by cases ho : s.off <;> simp_all
    by_cases hr : n < 0 ∨ (s.n : Int) ≤ n
    · have e : readTot s n = ([], 1) := by unfold readTot; rw [if_neg hoff, if_pos hr]
      unfold ReadsAs
      rw [e]
      rw [hof] at hu
      obtain ⟨-, -, -, gL0, gM0, vQ0, -, -, -, b4, -, -, -⟩ := id h
      obtain ⟨c0, -⟩ := six b4
      rcases (by omega : n < 0 ∨ (0 ≤ n ∧ (s.n : Int) ≤ n)) with h1 | ⟨h1, h2⟩
      · clear hr b4 h e
        go_enter Try.func16, Try.ntmps16
        go_wp2_with fail
        refine hu.mono ?_
        rintro e W' ⟨rfl, rfl⟩
        go_wp2_with fail
        go_ret2
        exact ⟨Below.refl _ _, none, 0, rfl, nil_bytes _⟩
      · obtain ⟨k, rfl⟩ := Int.eq_ofNat_of_zero_le h1
        have h2' : s.n ≤ k := by omega
        clear hr b4 h e
        go_enter Try.func16, Try.ntmps16
        go_wp2_with fail
        refine hu.mono ?_
        rintro e W' ⟨rfl, rfl⟩
        go_wp2_with fail
        go_ret2
        exact ⟨Below.refl _ _, none, 0, rfl, nil_bytes _⟩
    · obtain ⟨k, rfl⟩ := Int.eq_ofNat_of_zero_le (show 0 ≤ n by omega)
      have hk : k < s.n := by omega
      have e : readTot s (k : Int) = (secOf (applyQ s.L s.Q) k, 0) := by unfold readTot; rw [if_neg hoff, if_neg hr, Int.toNat_natCast]
      refine (read_any h hof k hk).mono ?_
      rintro e' W' ⟨hb, A, rfl, hx⟩
      rw [hh k hk] at hx
      refine ⟨hb, A, 64, ?_, ?_⟩
      · rw [e, hx.1]
      · rw [e, hx.1]; exact hx
end Go.Proofs.Ytpllifppjlakpaa.Dk
