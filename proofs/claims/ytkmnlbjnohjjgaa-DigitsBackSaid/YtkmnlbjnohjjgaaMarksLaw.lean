/-
  DigitsMarks: the law's walk; what Number tells of shown numbers.
-/
import Derived.Test.YtkmnlbjnohjjgaaShowsLaw
namespace Go.Proofs.Ytkmnlbjnohjjgaa
open Go.RowKit PDigitsShowsShow
set_option linter.unusedVariables false
set_option linter.unusedSimpArgs false

/-- A number, shown in a base with the letters of f. -/
def showF (f : Nat → Int) (neg : Bool) (n z : Nat) : List Int := (if neg = true then [45] else []) ++ (digs n 65 z).map f
theorem num_showF (f : Nat → Int) (hf : ∀ d, d < 36 → worthR (f d) = d ∧ 0 ≤ f d ∧ f d < 256) (m : Option Int) (neg : Bool) (n z : Nat) (b : Int) (h2 : 2 ≤ n) (h36 : n ≤ 36) (hz : z < 18446744073709551616)
    (hm : ∀ x, m = some x → 0 ≤ x ∧ x < 256 ∧ ¬ x = 39 ∧ 0 < markOf x ∧ markOf x = n) (hm0 : m = none → baseOf b = n) :
    numAll (strOfNums (m.toList ++ showF f neg n z)) b = (wrap64 ((if neg = true then -1 else 1) * wrap64 (z : Int)), true) := by
  have hd := digs_lt (b := n) (by omega) 65 z
  have h := num_digits m neg ((digs n 65 z).map f) b n (by simp [digs_ne]) (fun c hc => by
      obtain ⟨d, hd', rfl⟩ := List.mem_map.1 hc
      exact (hf d (by have := hd d hd'; omega)).2) (fun c hc => by
      obtain ⟨d, hd', rfl⟩ := List.mem_map.1 hc
      rw [(hf d (by have := hd d hd'; omega)).1]
      have := hd d hd'
      omega) (by omega) hm hm0
  rw [val_digs h2 f (fun d hd => (hf d (by omega)).1) 64 z hz] at h
  exact h
theorem digC_ok (d : Nat) (h : d < 36) : worthR (digC d) = d ∧ 0 ≤ digC d ∧ digC d < 256 := ⟨worth_digC h, by unfold digC; split <;> omega⟩
theorem digL_ok (d : Nat) (h : d < 36) : worthR (digL d) = d ∧ 0 ≤ digL d ∧ digL d < 256 := ⟨worth_digL h, by unfold digL; split <;> omega⟩
theorem back_wrap (z : Int) (h0 : -9223372036854775808 ≤ z) (h1 : z ≤ 9223372036854775807) : wrap64 ((if decide (z < 0) = true then -1 else 1) * wrap64 ((if z < 0 then (-z).toNat else z.toNat : Nat) : Int)) = z := by
  by_cases h : z < 0
  · rw [if_pos (decide_eq_true h), if_pos h]
    unfold wrap64
    omega
  · rw [if_neg (by simpa using h), if_neg h]
    unfold wrap64
    omega
theorem showL_F (z b : Int) (n : Nat) (hn : baseOf b = n) : showL z b = showF digC (decide (z < 0)) n (if z < 0 then (-z).toNat else z.toNat) := by
  unfold showL showF
  rw [hn, Int.toNat_natCast]
  by_cases h : z < 0
  · rw [if_pos h, if_pos h, if_pos (decide_eq_true h)]
  · rw [if_neg h, if_neg h, if_neg (by simpa using h)]
theorem mag_lt (z : Int) (h0 : -9223372036854775808 ≤ z) (h1 : z ≤ 9223372036854775807) : (if z < 0 then (-z).toNat else z.toNat : Nat) < 18446744073709551616 := by split <;> omega
/-- A mark ahead. -/
theorem num_mark (x z b : Int) (n : Nat) (hx : 0 ≤ x ∧ x < 256 ∧ ¬ x = 39 ∧ 0 < markOf x ∧ markOf x = n) (hn : baseOf n = n) (h2 : 2 ≤ n) (h36 : n ≤ 36) (h0 : -9223372036854775808 ≤ z) (h1 : z ≤ 9223372036854775807) :
    numAll (strOfNums [x] ++ strOfNums (showL z n)) b = (z, true) := by
  rw [← str_append, showL_F z n n hn]
  have h := num_showF digC digC_ok (some x) (decide (z < 0)) n _ b h2 h36 (mag_lt z h0 h1) (fun y hy => by cases hy; exact hx) (fun e => by cases e)
  rw [back_wrap z h0 h1] at h
  exact h

set_option maxHeartbeats 1000000 in
theorem digitsMarks_walk (W : World) (n : Int) (hn : (Lit.int .i64 n).wf = true) (b : Int) (_ : (Lit.int .i64 b).wf = true) :
    Calls Try.prog 6 #[.int .i64 n, .int .i64 b] W fun e W' => e = .returned (.bool true) ∧ Below W.heap.size W W' := by
  have hw := i64_wf hn
  have s1 := show_any n 16 hn
  have s2 := show_any n 10 hn
  have s3 := show_any n 2 hn
  have m1 := num_mark 36 n b 16 (by decide) (by decide) (by decide) (by decide) hw.1 hw.2
  have m2 := num_mark 35 n b 10 (by decide) (by decide) (by decide) (by decide) hw.1 hw.2
  have m3 := num_mark 37 n b 2 (by decide) (by decide) (by decide) (by decide) hw.1 hw.2
  have z1 : (strOfNums (showL n 16)).size ≤ 100 := by rw [str_size, showL_F n 16 16 (by decide)]; have := digs_len (b := 16) 65 (if n < 0 then (-n).toNat else n.toNat); unfold showF; simp only [List.length_append, List.length_map]; split <;> simp <;> omega
  have z2 : (strOfNums (showL n 10)).size ≤ 100 := by rw [str_size, showL_F n 10 10 (by decide)]; have := digs_len (b := 10) 65 (if n < 0 then (-n).toNat else n.toNat); unfold showF; simp only [List.length_append, List.length_map]; split <;> simp <;> omega
  have z3 : (strOfNums (showL n 2)).size ≤ 100 := by rw [str_size, showL_F n 2 2 (by decide)]; have := digs_len (b := 2) 65 (if n < 0 then (-n).toNat else n.toNat); unfold showF; simp only [List.length_append, List.length_map]; split <;> simp <;> omega
  have t1 := number_t (⟨#[36]⟩ ++ strOfNums (showL n 16)) b
  have t2 := number_t (⟨#[35]⟩ ++ strOfNums (showL n 10)) b
  have t3 := number_t (⟨#[37]⟩ ++ strOfNums (showL n 2)) b
  rw [show (⟨#[36]⟩ : ByteArray) ++ strOfNums (showL n 16) = strOfNums [36] ++ strOfNums (showL n ((16 : Nat) : Int)) from rfl, m1] at t1
  rw [show (⟨#[35]⟩ : ByteArray) ++ strOfNums (showL n 10) = strOfNums [35] ++ strOfNums (showL n ((10 : Nat) : Int)) from rfl, m2] at t2
  rw [show (⟨#[37]⟩ : ByteArray) ++ strOfNums (showL n 2) = strOfNums [37] ++ strOfNums (showL n ((2 : Nat) : Int)) from rfl, m3] at t3
  rw [show strOfNums [36] ++ strOfNums (showL n ((16 : Nat) : Int)) = (⟨#[36]⟩ : ByteArray) ++ strOfNums (showL n 16) from rfl] at t1
  rw [show strOfNums [35] ++ strOfNums (showL n ((10 : Nat) : Int)) = (⟨#[35]⟩ : ByteArray) ++ strOfNums (showL n 10) from rfl] at t2
  rw [show strOfNums [37] ++ strOfNums (showL n ((2 : Nat) : Int)) = (⟨#[37]⟩ : ByteArray) ++ strOfNums (showL n 2) from rfl] at t3
  clear m1 m2 m3
  generalize strOfNums (showL n 16) = x1 at *
  generalize strOfNums (showL n 10) = x2 at *
  generalize strOfNums (showL n 2) = x3 at *
  go_enter Try.func6, Try.ntmps6
  go_wp2_with fail
  refine (digAwake_any _).mono ?_
  rintro e w1 ⟨rfl, hb1⟩
  go_wp2_with fail
  refine (s1 _).mono ?_
  rintro e w2 ⟨rfl, hb2⟩
  have hbA := hb1.trans (hb2.mono hb1.size)
  go_wp2_with fail
  refine (t1 _).mono ?_
  rintro e w3 ⟨rfl, hb3⟩
  have hbB := hbA.trans (hb3.mono hbA.size)
  go_wp2_with fail
  refine (s2 _).mono ?_
  rintro e w4 ⟨rfl, hb4⟩
  have hbC := hbB.trans (hb4.mono hbB.size)
  go_wp2_with fail
  refine (t2 _).mono ?_
  rintro e w5 ⟨rfl, hb5⟩
  have hbD := hbC.trans (hb5.mono hbC.size)
  go_wp2_with fail
  refine (s3 _).mono ?_
  rintro e w6 ⟨rfl, hb6⟩
  have hbE := hbD.trans (hb6.mono hbD.size)
  go_wp2_with fail
  refine (t3 _).mono ?_
  rintro e w7 ⟨rfl, hb7⟩
  have hbF := hbE.trans (hb7.mono hbE.size)
  go_wp2_with fail
  go_ret
  exact ⟨rfl, hbF⟩
end Go.Proofs.Ytkmnlbjnohjjgaa
