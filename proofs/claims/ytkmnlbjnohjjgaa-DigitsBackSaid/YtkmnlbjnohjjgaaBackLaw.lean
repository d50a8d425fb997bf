/-
  DigitsBack: the law's walk.
-/
import Derived.Test.YtkmnlbjnohjjgaaMarksLaw
import Derived.Laws.IdiomStrings
import Derived.Laws.BytesArg
namespace Go.Proofs.Ytkmnlbjnohjjgaa
open Go.RowKit PDigitsShowsShow
set_option linter.unusedVariables false
set_option linter.unusedSimpArgs false

def low (c : Int) : Int := if 65 ≤ c ∧ c ≤ 90 then c + 32 else c
theorem low_digC (d : Nat) (h : d < 36) : low (digC d) = digL d := by unfold low digC digL; repeat' split <;> omega
theorem low_show (neg : Bool) (n z : Nat) (h : n ≤ 36) (h2 : 0 < n) : (showF digC neg n z).map low = showF digL neg n z := by
  unfold showF
  rw [List.map_append, List.map_map]
  congr 1
  · cases neg <;> rfl
  · apply List.map_congr_left
    intro d hd
    exact low_digC d (by have := digs_lt h2 65 z d hd; omega)
theorem num_plain (f : Nat → Int) (hf : ∀ d, d < 36 → worthR (f d) = d ∧ 0 ≤ f d ∧ f d < 256) (z b : Int) (n : Nat) (hn : baseOf b = n) (h2 : 2 ≤ n) (h36 : n ≤ 36) (h0 : -9223372036854775808 ≤ z) (h1 : z ≤ 9223372036854775807) :
    numAll (strOfNums (showF f (decide (z < 0)) n (if z < 0 then (-z).toNat else z.toNat))) b = (z, true) := by
  have h := num_showF f hf none (decide (z < 0)) n _ b h2 h36 (mag_lt z h0 h1) (fun y hy => by cases hy) (fun _ => hn)
  rw [back_wrap z h0 h1] at h
  exact h
theorem num_u (z b : Int) (n : Nat) (hn : baseOf b = n) (h2 : 2 ≤ n) (h36 : n ≤ 36) (h0 : -9223372036854775808 ≤ z) (h1 : z ≤ 9223372036854775807) :
    numAll (strOfNums (showUL (z % 18446744073709551616) b)) b = (z, true) := by
  have h := num_showF digC digC_ok none false n (z % 18446744073709551616).toNat b h2 h36 (by omega) (fun y hy => by cases hy) (fun _ => hn)
  have e : showUL (z % 18446744073709551616) b = (none : Option Int).toList ++ showF digC false n (z % 18446744073709551616).toNat := by
    unfold showUL showF
    rw [hn, Int.toNat_natCast]
    rfl
  rw [e, h]
  congr 1
  rw [if_neg (by decide)]
  unfold wrap64
  omega
theorem showF_bytes (f : Nat → Int) (hf : ∀ d, d < 36 → worthR (f d) = d ∧ 0 ≤ f d ∧ f d < 256) (neg : Bool) (n z : Nat) (h36 : n ≤ 36) (h2 : 0 < n) : isB (showF f neg n z) := by
  unfold showF
  refine isB_append ?_ ?_
  · cases neg
    · intro x hx; simp at hx
    · intro x hx; simp at hx; omega
  · intro x hx
    obtain ⟨d, hd, rfl⟩ := List.mem_map.1 hx
    exact (hf d (by have := digs_lt h2 65 z d hd; omega)).2
/-- Byte j after i rounds. -/
def smallAt (s : ByteArray) (i j : Nat) : Int := if j < i then low (bt s j) else bt s j
theorem row_cell (w : World) (s : ByteArray) (cap lo hi j : Nat) (hj : j < s.size) : ((w.alloc (.cells (bytesRow s cap) 5 (lo, hi))).drew).cell? ⟨w.heap.size, j, none⟩ = some (.int .u8 (bt s j)) := by
  have h : (w.alloc (.cells (bytesRow s cap) 5 (lo, hi))).cell? ⟨w.heap.size, j, none⟩ = (bytesRow s cap)[j]? := World.cell?_alloc_mark w _ _ _ j
  refine h.trans ?_
  have hj' : j < s.data.size := hj
  rw [bytesRow, Array.getElem?_append_left (by simpa using hj'), Array.getElem?_map, Array.getElem?_eq_getElem hj']
  unfold bt
  rw [dif_pos hj]
  rfl
theorem row_free (w : World) (s : ByteArray) (cap j : Nat) (hj : j < s.size) : ((w.alloc (.cells (bytesRow s cap) 5 ((bytesRow s cap).size, (bytesRow s cap).size + 1))).drew).frozen? ⟨w.heap.size, j, none⟩ = false := by
  have h := World.frozen?_alloc_mark w (bytesRow s cap) 5 (bytesRow s cap).size ((bytesRow s cap).size + 1) j
  refine Eq.trans (Eq.trans rfl h) ?_
  have : s.size ≤ (bytesRow s cap).size := by
    have : s.data.size = s.size := rfl
    simp [bytesRow, this]
  rw [decide_eq_false (by omega)]
  rfl
theorem set_cell (w : World) (g i : Nat) (v u : Value) (h : w.cell? ⟨g, i, none⟩ = some v) (j : Nat) : (w.setCell ⟨g, i, none⟩ u).cell? ⟨g, j, none⟩ = if j = i then some u else w.cell? ⟨g, j, none⟩ := by
  by_cases hj : j = i
  · subst hj
    rw [if_pos rfl]
    exact World.cell?_setCell_same w ⟨g, j, none⟩ u h
  · rw [if_neg hj]
    exact World.cell?_setCell_other w ⟨g, i, none⟩ ⟨g, j, none⟩ u (fun e => hj (by injection e with _ e2 _; exact e2.symm))
theorem smallAt_succ (s : ByteArray) (i j : Nat) : smallAt s (i + 1) j = if j = i then low (bt s i) else smallAt s i j := by
  unfold smallAt
  by_cases h : j = i
  · subst h
    rw [if_pos (by omega), if_pos rfl]
  · rw [if_neg h]
    by_cases h2 : j < i
    · rw [if_pos (by omega), if_pos h2]
    · rw [if_neg (by omega), if_neg h2]
def Small (s : ByteArray) (g i : Nat) (w : World) : Prop := ∀ j, j < s.size → w.cell? ⟨g, j, none⟩ = some (.int .u8 (smallAt s i j)) ∧ w.frozen? ⟨g, j, none⟩ = false
theorem Small.set_ {s : ByteArray} {g i : Nat} {w : World} (h : Small s g i w) (hi : i < s.size) (v : Int) (hv : v = low (bt s i)) : Small s g (i + 1) (w.setCell ⟨g, i, none⟩ (.int .u8 v)) := by
  intro j hj
  refine ⟨?_, by rw [World.frozen?_setCell]; exact (h j hj).2⟩
  rw [set_cell w g i _ _ (h i hi).1, smallAt_succ, hv]
  by_cases hji : j = i
  · rw [if_pos hji, if_pos hji]
  · rw [if_neg hji, if_neg hji]
    exact (h j hj).1
theorem Small.keep {s : ByteArray} {g i : Nat} {w : World} (h : Small s g i w) (hv : bt s i = low (bt s i)) : Small s g (i + 1) w := by
  intro j hj
  refine ⟨?_, (h j hj).2⟩
  rw [(h j hj).1, smallAt_succ]
  by_cases hji : j = i
  · subst hji
    rw [if_pos rfl, ← hv]
    unfold smallAt
    rw [if_neg (Nat.lt_irrefl _)]
  · rw [if_neg hji]
theorem Small.at_ {s : ByteArray} {g i : Nat} {w : World} (h : Small s g i w) (hi : i < s.size) : w.cell? ⟨g, i, none⟩ = some (.int .u8 (bt s i)) ∧ w.frozen? ⟨g, i, none⟩ = false := by
  have := h i hi
  unfold smallAt at this
  rwa [if_neg (Nat.lt_irrefl _)] at this
theorem next_int {i n : Nat} (h : i < n) (hn : n ≤ 1000) : wrap64 ((i : Int) + 1) = ((i + 1 : Nat) : Int) := by rw [wrap64_of] <;> omega
theorem showF_len (f : Nat → Int) (neg : Bool) (n z : Nat) : (showF f neg n z).length ≤ 66 := by
  unfold showF
  have := digs_len (b := n) 65 z
  rw [List.length_append, List.length_map]
  cases neg
  · simp; omega
  · simp; omega

set_option maxHeartbeats 2000000 in
theorem digitsBack_walk (W : World) (n : Int) (hn : (Lit.int .i64 n).wf = true) (b : Int) (_ : (Lit.int .i64 b).wf = true) :
    Calls Try.prog 5 #[.int .i64 n, .int .i64 b] W fun e W' => e = .returned (.bool true) ∧ Below W.heap.size W W' := by
  obtain ⟨N, hN, h2, h36⟩ := base_nat b
  have hw := i64_wf hn
  have s1 := show_any n b hn
  have s3 := showU_any (n % 18446744073709551616) b (by omega) (by omega)
  have t1 := number_t (strOfNums (showF digC (decide (n < 0)) N (if n < 0 then (-n).toNat else n.toNat))) b
  have t2 := number_t (strOfNums ((showF digC (decide (n < 0)) N (if n < 0 then (-n).toNat else n.toNat)).map low)) b
  have t3 := number_t (strOfNums (showUL (n % 18446744073709551616) b)) b
  rw [showL_F n b N hN] at s1
  rw [num_plain digC digC_ok n b N hN h2 h36 hw.1 hw.2] at t1
  rw [low_show _ N _ h36 (by omega), num_plain digL digL_ok n b N hN h2 h36 hw.1 hw.2] at t2
  rw [num_u n b N hN h2 h36 hw.1 hw.2] at t3
  rw [← low_show _ N _ h36 (by omega)] at t2
  have hby := showF_bytes digC digC_ok (decide (n < 0)) N (if n < 0 then (-n).toNat else n.toNat) h36 (by omega)
  have hlen := showF_len digC (decide (n < 0)) N (if n < 0 then (-n).toNat else n.toNat)
  generalize showF digC (decide (n < 0)) N (if n < 0 then (-n).toNat else n.toNat) = L at *
  generalize strOfNums (showUL (n % 18446744073709551616) b) = tU at s3 t3
  have Hsz := Lib.hid (str_size L)
  have Hbt := Lib.hid (fun j => bt_str hby j)
  have hs1000 : (strOfNums L).size ≤ 1000 := by rw [str_size]; omega
  generalize strOfNums L = s at *
  clear hby hlen h2 h36 hN hw
  go_enter Try.func5, Try.ntmps5
  go_wp2_with fail
  refine (digAwake_any _).mono ?_
  rintro e w1 ⟨rfl, hb1⟩
  go_wp2_with fail
  refine (s1 _).mono ?_
  rintro e w2 ⟨rfl, hb2⟩
  have hbA := hb1.trans (hb2.mono hb1.size)
  go_wp2_with fail
  refine (t1 _).mono ?_
  rintro e w3 ⟨rfl, hb3⟩
  have hbB := hbA.trans (hb3.mono hbA.size)
  have hcv := run_bytes_of_string (P := Try.prog) w3 9 31 5 s Try.underlying9 Try.underlying31 Try.underlying5
  generalize grownCap w3 s.size 0 5 = cap at hcv
  have Hst : Small s w3.heap.size 0 ((w3.alloc (.cells (bytesRow s cap) 5 ((bytesRow s cap).size, (bytesRow s cap).size + 1))).drew) := fun j hj => by
    refine ⟨?_, row_free w3 s cap j hj⟩
    rw [row_cell w3 s cap _ _ j hj]
    rfl
  have Hb0 : Below W.heap.size W ((w3.alloc (.cells (bytesRow s cap) 5 ((bytesRow s cap).size, (bytesRow s cap).size + 1))).drew) := (hbB.alloc hbB.size _).drew
  have hg : W.heap.size ≤ w3.heap.size := hbB.size
  clear hb1 hb2 hb3 hbA
  go_wp2_with fail
  go_loopw [29] (fun v wr => ∃ i : Nat, i ≤ s.size ∧ v = .int .i64 i ∧ Small s w3.heap.size i wr ∧ Below W.heap.size W wr) (fun v _ => s.size - (intOf v).toNat)
  case atStart => exact ⟨0, Nat.zero_le _, rfl, Hst, Hb0⟩
  case round =>
    obtain ⟨i, hi, rfl, Hc, hb⟩ := hrel
    by_cases hlt : i < s.size
    · obtain ⟨k1, k2⟩ := Hc.at_ hlt
      have hnx := next_int hlt hs1000
      have hms : s.size - (i + 1) < s.size - i := Nat.sub_lt_sub_left hlt (Nat.lt_succ_self i)
      have f2 : (i : Int) < (s.size : Int) := Int.ofNat_lt.2 hlt
      have hlw := Lib.hid (show low (bt s i) = low (bt s i) from rfl)
      have hkeep := Lib.hid (Hc.keep (i := i))
      have hset := Lib.hid (Hc.set_ hlt)
      generalize bt s i = c at *
      have hs3 : c < 65 ∨ 65 ≤ c ∧ c ≤ 90 ∨ 90 < c := by omega
      clear Hst Hb0 hcv Hc
      rcases hs3 with q | ⟨q, q'⟩ | q
      · have hk := Lib.hid (hkeep.out (by unfold low; rw [if_neg (by omega)]))
        clear hkeep hset
        go_wp2_with fail
        go_roundw
        case rel => exact ⟨i + 1, hlt, rfl, hk.out, hb⟩
        case measure => first | exact hms | (rw [hnx]; exact hms)
      · have hm : (c + 32) % 256 = c + 32 := by omega
        have hk := Lib.hid (hset.out (c + 32) (by unfold low; rw [if_pos ⟨q, q'⟩]))
        clear hkeep hset
        go_wp2_with fail
        go_roundw
        case rel => exact ⟨i + 1, hlt, rfl, hk.out, hb.setCell hg _⟩
        case measure => first | exact hms | (rw [hnx]; exact hms)
      · have hk := Lib.hid (hkeep.out (by unfold low; rw [if_neg (by omega)]))
        clear hkeep hset
        go_wp2_with fail
        go_roundw
        case rel => exact ⟨i + 1, hlt, rfl, hk.out, hb⟩
        case measure => first | exact hms | (rw [hnx]; exact hms)
    · obtain rfl : i = s.size := Nat.le_antisymm hi (Nat.le_of_not_lt hlt)
      have hstr := run_convert_bytes_arg (P := Try.prog) (w := wr) 31 5 Try.underlying31 Try.underlying5 w3.heap.size 0 s.size cap (L.map low) (by rw [List.length_map, Hsz.out]) (fun j hj => by
        rw [Nat.zero_add, (Hc j hj).1]
        unfold smallAt
        rw [if_pos hj, Hbt.out j, List.getD_eq_getElem?_getD, List.getElem?_map]
        have : j < L.length := by rw [← Hsz.out]; exact hj
        rw [List.getElem?_eq_getElem this]
        rfl) 9 Try.underlying9
      clear Hst Hb0 hcv Hc
      generalize strOfNums (L.map low) = s2 at *
      go_wp2_with fail
      refine (t2 _).mono ?_
      rintro e w4 ⟨rfl, hb4⟩
      have hbC := hb.trans (hb4.mono hb.size)
      go_wp2_with fail
      refine (s3 _).mono ?_
      rintro e w5 ⟨rfl, hb5⟩
      have hbD := hbC.trans (hb5.mono hbC.size)
      go_wp2_with fail
      refine (t3 _).mono ?_
      rintro e w6 ⟨rfl, hb6⟩
      have hbE := hbD.trans (hb6.mono hbD.size)
      go_wp2_with fail
      go_ret
      exact ⟨rfl, hbE⟩
end Go.Proofs.Ytkmnlbjnohjjgaa
