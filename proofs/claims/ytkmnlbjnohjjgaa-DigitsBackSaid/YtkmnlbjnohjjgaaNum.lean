/-
  digits.Number: what it tells, and its walk.
-/
import Derived.Test.YtkmnlbjnohjjgaaDig
import Derived.Deep.RegionHeld3
import Derived.Deep.QuietTactic
import Derived.BigQuiet
import Derived.WalkSmall
import Derived.Lib.Hide
import Derived.Deep.DeepCutAuto
import Derived.Deep.CutBlock
import Derived.Deep.DeepCutAuto
import Derived.Deep.CutBlock
import Derived.Deep.DeepCutAuto
import Derived.Deep.CutBlock
import Derived.Deep.DeepCutAuto
import Derived.Deep.CutBlock
import Derived.Deep.DeepCutAuto
import Derived.Deep.CutBlock
import Derived.Deep.DeepCutAuto
import Derived.Deep.CutBlock
import Derived.Deep.DeepCutAuto
import Derived.Deep.CutBlock
import Derived.Deep.DeepCutAuto
import Derived.Deep.CutBlock
import Derived.Deep.DeepCutAuto
import Derived.Deep.CutBlock
namespace Go.Proofs.Ytkmnlbjnohjjgaa
open Go.RowKit
set_option linter.unusedVariables false
set_option linter.unusedSimpArgs false

theorem cut_no (g : Nat) (s : ByteArray) (w : World) : Calls Try.prog 16 #[.bool false, .pointer (some ⟨g, 0, none⟩)] w fun e w' => e = .returned (.bool false) ∧ w = w' := by
  go_enter Try.func16, Try.ntmps16
  go_wp2
  go_ret
  exact ⟨rfl, rfl⟩
theorem cut_yes (g : Nat) (s : ByteArray) (w : World) (hc : w.cell? ⟨g, 0, none⟩ = some (.string s)) (hf : w.frozen? ⟨g, 0, none⟩ = false) (hs : 0 < s.size) :
    Calls Try.prog 16 #[.bool true, .pointer (some ⟨g, 0, none⟩)] w fun e w' => e = .returned (.bool true) ∧ w' = w.setCell ⟨g, 0, none⟩ (.string (s.extract 1 s.size)) := by
  have h1 : (1 : Int) ≤ (s.size : Int) := by omega
  go_enter Try.func16, Try.ntmps16
  go_wp2
  go_ret
  exact ⟨rfl, rfl⟩
theorem base_any (b : Int) (w : World) : Calls Try.prog 10 #[.int .i64 b] w fun e w' => e = .returned (.int .i64 (if 2 ≤ b ∧ b ≤ 36 then b else 10)) ∧ w = w' := by
  have hs : b < 2 ∨ 2 ≤ b ∧ b ≤ 36 ∨ 36 < b := by omega
  rcases hs with h | ⟨h, h'⟩ | h
  · rw [if_neg (by omega)]
    go_enter Try.func10, Try.ntmps10
    go_wp2
    go_ret
    exact ⟨rfl, rfl⟩
  · rw [if_pos ⟨h, h'⟩]
    go_enter Try.func10, Try.ntmps10
    go_wp2
    go_ret
    exact ⟨rfl, rfl⟩
  · rw [if_neg (by omega)]
    go_enter Try.func10, Try.ntmps10
    go_wp2
    go_ret
    exact ⟨rfl, rfl⟩
def bt (s : ByteArray) (i : Nat) : Int := if h : i < s.size then ((s[i]'h).toNat : Int) else 0
theorem bt_at (s : ByteArray) (i : Nat) (h : i < s.size) : ((s[i]'h).toNat : Int) = bt s i := by unfold bt; rw [dif_pos h]
theorem bt_range (s : ByteArray) (i : Nat) : 0 ≤ bt s i ∧ bt s i < 256 := by
  unfold bt
  split
  · rename_i h
    have := (s[i]'h).toNat_lt
    omega
  · omega
def baseOf (b : Int) : Int := if 2 ≤ b ∧ b ≤ 36 then b else 10
/-- The digits from a place on, read onto n. -/
def readB (s : ByteArray) (b : Int) (pos : Nat) (n : Int) : Option Int :=
  if pos < s.size then (if b ≤ worthR (bt s pos) then none else readB s b (pos + 1) (wrap64 (wrap64 (n * b) + worthR (bt s pos)))) else some n
termination_by s.size - pos
theorem readB_no {s : ByteArray} {b : Int} {pos : Nat} {n : Int} (h : pos < s.size) (h1 : b ≤ worthR (bt s pos)) : readB s b pos n = none := by rw [readB, if_pos h, if_pos h1]
theorem readB_go {s : ByteArray} {b : Int} {pos : Nat} {n : Int} (h : pos < s.size) (h1 : ¬ b ≤ worthR (bt s pos)) : readB s b pos n = readB s b (pos + 1) (wrap64 (wrap64 (n * b) + worthR (bt s pos))) := by rw [readB, if_pos h, if_neg h1]
theorem readB_end {s : ByteArray} {b : Int} {pos : Nat} {n : Int} (h : ¬ pos < s.size) : readB s b pos n = some n := by rw [readB, if_neg h]
theorem worth_range (c : Int) : 0 ≤ worthR c ∧ worthR c ≤ 36 := by unfold worthR; repeat' split <;> omega
theorem worth_high {c : Int} (h : 128 ≤ c) : worthR c = 36 := by unfold worthR; repeat' split <;> omega
/-- What a sign, digits and a base tell. -/
def numRes (sg : Int) (s : ByteArray) (b : Int) : Int × Bool :=
  match readB s b 0 0 with
  | none => (0, false)
  | some n => (wrap64 (sg * n), !s.toList.isEmpty)
def numV (r : Int × Bool) : Value := .tuple #[.int .i64 r.1, .bool r.2]
theorem numRes_no {sg : Int} {s : ByteArray} {b : Int} (h : readB s b 0 0 = none) : numRes sg s b = (0, false) := by unfold numRes; rw [h]
theorem numRes_yes {sg : Int} {s : ByteArray} {b n : Int} (h : readB s b 0 0 = some n) : numRes sg s b = (wrap64 (sg * n), !s.toList.isEmpty) := by unfold numRes; rw [h]
theorem nil_yes {s : ByteArray} (h : s.size = 0) : s.toList.isEmpty = true := by
  rw [Go.ByteArray.toList_eq, List.isEmpty_iff]
  exact List.eq_nil_of_length_eq_zero (by simpa using h)
theorem nil_no {s : ByteArray} (h : 0 < s.size) : s.toList.isEmpty = false := by
  rw [Go.ByteArray.toList_eq]
  rcases hh : s.data.toList with _ | ⟨x, l⟩
  · have := congrArg List.length hh
    simp at this
    have h2 : s.size = s.data.size := rfl
    rw [h2, this] at h; simp at h
  · rfl
theorem iter_cell {W : World} {g : Nat} {v : Value} {t : TypeId} (h : W.heap[g]? = some (.cells #[v] t (0, 0))) (s : ByteArray) (pos : Nat) : (W.iter s pos).cell? ⟨g, 0, none⟩ = some v := by
  have hlt : g < W.heap.size := (Array.getElem?_eq_some_iff.1 h).1
  have h2 : (W.iter s pos).heap[g]? = some (.cells #[v] t (0, 0)) := (Below.heap_alloc W _ g hlt).trans h
  rw [cell_of_row _ g 0 _ t (0, 0) h2]; rfl
theorem cell_one {W : World} {g : Nat} {v : Value} {t : TypeId} (h : W.heap[g]? = some (.cells #[v] t (0, 0))) : W.cell? ⟨g, 0, none⟩ = some v := by
  rw [cell_of_row W g 0 _ t (0, 0) h]; rfl

set_option maxHeartbeats 1000000 in
theorem number_q (s : ByteArray) (b : Int) (w : World) (h3 : s.size = 3) (q0 : bt s 0 = 39) (q2 : bt s 2 = 39) :
    Calls Try.prog 8 #[.string s, .int .i64 b] w fun e w' => e = .returned (.tuple #[.int .i64 (bt s 1), .bool true]) ∧ Below w.heap.size w w' := by
  have b0 := bt_at s 0 (by omega)
  have b1 := bt_at s 1 (by omega)
  have b2 := bt_at s 2 (by omega)
  have hwb : wrap64 (bt s 1) = bt s 1 := by have := bt_range s 1; rw [wrap64_of] <;> omega
  have hsz : (s.size : Int) = 3 := by omega
  rw [q0] at b0
  rw [q2] at b2
  go_enter Try.func8, Try.ntmps8
  go_wp2
  go_ret2
  rw [hwb]
  exact ⟨rfl, (Below.refl _ _).alloc (Nat.le_refl _) _⟩
set_option maxHeartbeats 1000000 in
theorem number_e (s : ByteArray) (b : Int) (w : World) (h3 : s.size = 0) :
    Calls Try.prog 8 #[.string s, .int .i64 b] w fun e w' => e = .returned (numV (numRes 1 s (baseOf b))) ∧ Below w.heap.size w w' := by
  have hsz : (s.size : Int) = 0 := by omega
  have hnil := nil_yes h3
  have hba := base_any b
  have hbb36 : baseOf b ≤ 36 := by unfold baseOf; split <;> omega
  have hbb2 : 2 ≤ baseOf b := by unfold baseOf; split <;> omega
  rw [show (if 2 ≤ b ∧ b ≤ 36 then b else 10) = baseOf b from rfl] at hba
  generalize baseOf b = bb at *
  go_enter Try.func8, Try.ntmps8
  go_wp2_with (go_at_call 10; refine (hba _).mono ?_; rintro e w' ⟨rfl, rfl⟩)
  have HB : Below w.heap.size w (w.alloc (.cells #[.string s] 9)) := (Below.refl _ _).alloc (Nat.le_refl _) _
  have HC := heap_alloc_new w (.cells #[.string s] 9)
  have HS : (w.alloc (.cells #[.string s] 9)).heap.size = w.heap.size + 1 := by simp
  generalize w.alloc (.cells #[.string s] 9) = WI at HB HC HS ⊢
  go_loopw [9] (fun v wr => ∃ (pos : Nat) (n : Int), v = .int .i64 n ∧ wr = World.iter WI s pos ∧ Hid (readB s bb pos n = readB s bb 0 0)) (fun _ wr => s.size - wr.iterPos (World.heap WI).size)
  case atStart => exact ⟨0, 0, rfl, rfl, Lib.hid rfl⟩
  case round =>
    obtain ⟨pos, n, rfl, rfl, hrd⟩ := hrel
    by_cases hlt : pos < s.size
    · exact absurd hlt (by omega)
    · have hnx := fun ty => run_next_end (P := Try.prog) WI s pos ty hlt
      simp only [HS] at hnx
      have hyes := Lib.hid (hrd.out.symm.trans (readB_end (n := n) (b := bb) hlt))
      have hcell := iter_cell HC s pos
      clear hlt
      go_wp2
      go_quiet (fail)
      go_wp2
      go_ret2
      rw [numRes_yes hyes.out]
      rw [Int.one_mul, hnil]
      exact ⟨rfl, below_drewN (HB.alloc HB.size _) _⟩
theorem box_map (w : World) (s : ByteArray) : Below w.heap.size w ((w.alloc (.cells #[.string s] 9)).alloc (.map markMap 3)).drew ∧ ((w.alloc (.cells #[.string s] 9)).alloc (.map markMap 3)).drew.heap[w.heap.size]? = some (.cells #[.string s] 9 (0, 0)) := by
  refine ⟨((((Below.refl _ _).alloc (Nat.le_refl _) _)).alloc (by simp) _).drew, ?_⟩
  refine (Below.heap_alloc _ _ _ (by simp)).trans ?_
  exact heap_alloc_new w _
theorem box_map2 (w : World) (s : ByteArray) : ((w.alloc (.cells #[.string s] 9)).alloc (.map markMap 3)).drew.heap[w.heap.size + 1]? = some (.map markMap 3) := by
  have h := heap_alloc_new (w.alloc (.cells #[.string s] 9)) (.map markMap 3)
  rwa [show (w.alloc (.cells #[.string s] 9)).heap.size = w.heap.size + 1 by simp] at h
/-- The mark at a text's begin, if there is one. -/
def markAt (s : ByteArray) : Int := if 0 < s.size then markOf (bt s 0) else 0
theorem markOf_range (c : Int) : 0 ≤ markOf c ∧ markOf c ≤ 16 := by unfold markOf; repeat' split <;> omega
set_option maxHeartbeats 1000000 in
theorem number_n (s : ByteArray) (b : Int) (w : World) (hq : ¬ s.size = 3 ∨ s.size = 3 ∧ ¬ bt s 0 = 39 ∨ s.size = 3 ∧ bt s 0 = 39 ∧ ¬ bt s 2 = 39)
    (bb : Int) (hbb : bb = if 0 < markAt s then markAt s else baseOf b) (s1 : ByteArray) (hs1 : s1 = if 0 < markAt s then s.extract 1 s.size else s)
    (neg : Bool) (hneg : neg = decide (0 < s1.size ∧ bt s1 0 = 45)) (s2 : ByteArray) (hs2 : s2 = if neg = true then s1.extract 1 s1.size else s1) :
    Calls Try.prog 8 #[.string s, .int .i64 b] w fun e w' => e = .returned (numV (numRes (if neg = true then -1 else 1) s2 bb)) ∧ Below w.heap.size w w' := by
  have hbb36 : bb ≤ 36 := by have := markOf_range (bt s 0); unfold baseOf markAt at hbb; split at hbb <;> (try split at hbb) <;> (try split at hbb) <;> omega
  have hbb2 : 2 ≤ bb ∨ True := .inr trivial
  have hba := base_any b
  rw [show (if 2 ≤ b ∧ b ≤ 36 then b else 10) = baseOf b from rfl] at hba
  have Hbb := Lib.hid hbb
  have Hs1 := Lib.hid hs1
  have Hneg := Lib.hid hneg
  have Hs2 := Lib.hid hs2
  have Hq := Lib.hid hq
  clear hbb hs1 hneg hs2 hq
  go_enter Try.func8, Try.ntmps8
  go_upto_region 1 with fail
  go_cut [25] (fun v wx => v = .bool false ∧ wx = w.alloc (.cells #[.string s] 9))
  case first =>
    rcases Hq.out with h | ⟨h, h'⟩ | ⟨h, h', h''⟩
    · have hi : ¬ (s.size : Int) = 3 := by omega
      clear h
      go_wp2_with fail
      go_meet
      exact ⟨rfl, rfl⟩
    · have b0 := bt_at s 0 (by omega)
      have hi : (s.size : Int) = 3 := by omega
      have hbf : (bt s 0 == 39) = false := by simpa using h'
      generalize bt s 0 = c at *
      go_wp2_with fail
      go_meet
      exact ⟨rfl, rfl⟩
    · have b0 := bt_at s 0 (by omega)
      have b2 := bt_at s 2 (by omega)
      have hi : (s.size : Int) = 3 := by omega
      rw [h'] at b0
      have hbf : (bt s 2 == 39) = false := by simpa using h''
      generalize bt s 2 = c at *
      clear h'
      go_wp2_with fail
      go_meet
      exact ⟨rfl, rfl⟩
  case rest =>
    obtain ⟨rfl, rfl⟩ := hcut
    go_upto_if 33 with (go_at_call 10; refine (hba _).mono ?_; rintro e w' ⟨rfl, rfl⟩)
    go_cut [1] (fun v wx => v = .int .i64 bb ∧ Below w.heap.size w wx ∧ wx.heap[w.heap.size]? = some (.cells #[.string s1] 9 (0, 0)))
    case first =>
      have HB0 : Below w.heap.size w (w.alloc (.cells #[.string s] 9)) := (Below.refl _ _).alloc (Nat.le_refl _) _
      by_cases h0 : s.size = 0
      · have hnil := nil_yes h0
        have hnil2 : (!s.toList.isEmpty) = false := by rw [hnil]; rfl
        have hma : markAt s = 0 := by unfold markAt; rw [if_neg (by omega)]
        have e1 := Hbb.out
        have e2 := Hs1.out
        rw [hma, if_neg (by omega)] at e1 e2
        have e1' := Lib.hid e1
        have e2' := Lib.hid e2
        clear e1 e2 hma h0
        rw [hnil2]
        go_wp2_with fail
        go_meet
        rw [e1'.out, e2'.out]
        exact ⟨rfl, HB0, heap_alloc_new _ _⟩
      · have hpos : 0 < s.size := by omega
        have hnil := nil_no hpos
        have hnil2 : (!s.toList.isEmpty) = true := by rw [hnil]; rfl
        have hma : markAt s = markOf (bt s 0) := by unfold markAt; rw [if_pos hpos]
        have b0 := bt_at s 0 hpos
        have h1 : (0 : Int) < (s.size : Int) := by omega
        have hm0 := markOf_range (bt s 0)
        have HBb := box_map w s
        have e1 := Hbb.out
        have e2 := Hs1.out
        rw [hma] at e1 e2
        have hmk := run_mark ((w.alloc (.cells #[.string s] 9)).alloc (.map markMap 3)).drew (w.heap.size + 1) 3 (bt s 0) (box_map2 w s)
        clear hma h0
        generalize markOf (bt s 0) = m at *
        generalize bt s 0 = c at *
        have e1' := Lib.hid e1
        have e2' := Lib.hid e2
        clear e1 e2
        rw [hnil2]
        go_wp2_with fail
        go_region_with (go_at_call 17; refine (marks_any _).mono ?_; rintro e w' ⟨rfl, rfl⟩)
        all_goals
          obtain ⟨HB1, HC1⟩ := HBb
          generalize ((w.alloc (.cells #[.string s] 9)).alloc (.map markMap 3)).drew = W1 at HB1 HC1 ⊢
          have hcell := cell_one HC1
          have hfr := frozen_of_row W1 w.heap.size 0 _ 9 HC1
          clear hmk hnil hnil2 hba HB0
          by_cases hmp : 0 < m
          · go_wp2_with (go_at_call 16; refine (cut_yes _ s _ hcell hfr hpos).mono ?_; rintro e w' ⟨rfl, rfl⟩)
            go_meet
            rw [e1'.out, e2'.out, if_pos hmp, if_pos hmp]
            exact ⟨rfl, HB1.setCell (Nat.le_refl _) _, heap_setCell_same W1 w.heap.size 0 _ 9 _ HC1⟩
          · obtain rfl : m = 0 := by omega
            go_wp2_with (go_at_call 16; refine (cut_no _ s _).mono ?_; rintro e w' ⟨rfl, rfl⟩)
            go_meet
            rw [e1'.out, e2'.out, if_neg (Int.lt_irrefl 0), if_neg (Int.lt_irrefl 0)]
            exact ⟨rfl, HB1, HC1⟩
    case rest =>
      obtain ⟨rfl, HB, HC⟩ := hcut
      have hcell := cell_one HC
      have hfr := frozen_of_row wc w.heap.size 0 _ 9 HC
      clear hba Hbb Hs1 Hq
      go_upto_region 10 with fail
      go_cut [51] (fun v wx => v = .bool neg ∧ Below w.heap.size w wx ∧ wx.heap[w.heap.size]? = some (.cells #[.string s2] 9 (0, 0)))
      case first =>
        have e1 := Hneg.out
        have e2 := Hs2.out
        by_cases h0 : s1.size = 0
        · have hnil := nil_yes h0
          have en : neg = false := by rw [e1]; simp [h0]
          have es : s2 = s1 := by rw [e2, en]; rfl
          clear e1 e2 Hneg Hs2 h0
          subst en
          subst es
          go_wp2_with fail
          go_meet
          exact ⟨rfl, HB, HC⟩
        · have hpos : 0 < s1.size := by omega
          have hnil := nil_no hpos
          have b0 := bt_at s1 0 hpos
          have h1 : (0 : Int) < (s1.size : Int) := by omega
          by_cases hc : bt s1 0 = 45
          · have en : neg = true := by rw [e1]; simp [hpos, hc]
            have es : s2 = s1.extract 1 s1.size := by rw [e2, en]; rfl
            clear e1 e2 Hneg Hs2 h0
            rw [hc] at b0
            subst en
            subst es
            go_wp2_with (go_at_call 16; refine (cut_yes _ s1 _ hcell hfr hpos).mono ?_; rintro e w' ⟨rfl, rfl⟩)
            go_meet
            exact ⟨rfl, HB.setCell (Nat.le_refl _) _, heap_setCell_same wc w.heap.size 0 _ 9 _ HC⟩
          · have en : neg = false := by rw [e1]; simp [hc]
            have es : s2 = s1 := by rw [e2, en]; rfl
            have hbf : (bt s1 0 == 45) = false := by simpa using hc
            clear e1 e2 Hneg Hs2 h0
            generalize bt s1 0 = c at *
            subst en
            subst es
            go_wp2_with (go_at_call 16; refine (cut_no _ s2 _).mono ?_; rintro e w' ⟨rfl, rfl⟩)
            go_meet
            exact ⟨rfl, HB, HC⟩
      case rest =>
        clear HB HC hcell hfr Hneg Hs2
        obtain ⟨rfl, HB, HC⟩ := hcut
        have hcell0 := cell_one HC
        cases neg
        · go_wp2_with fail
          go_loopw [9] (fun v wr => ∃ (pos : Nat) (n : Int), v = .int .i64 n ∧ wr = World.iter wc s2 pos ∧ Hid (readB s2 bb pos n = readB s2 bb 0 0)) (fun _ wr => s2.size - wr.iterPos (World.heap wc).size)
          case atStart => exact ⟨0, 0, rfl, rfl, Lib.hid rfl⟩
          case round =>
            obtain ⟨pos, n, rfl, rfl, hrd⟩ := hrel
            by_cases hlt : pos < s2.size
            · have hbt := bt_at s2 pos hlt
              by_cases hasc : (s2[pos]'hlt).toNat < 128
              · have hnx := fun ty => run_next_ascii (P := Try.prog) wc s2 pos ty hlt hasc
                simp only [hbt] at hnx
                have hc0 : 0 ≤ bt s2 pos := by omega
                have hc1 : bt s2 pos ≤ 2147483647 := by omega
                have hwr := worth_range (bt s2 pos)
                by_cases hge : bb ≤ worthR (bt s2 pos)
                · have hno := Lib.hid (hrd.out.symm.trans (readB_no (n := n) hlt hge))
                  generalize bt s2 pos = c at *
                  have hwa := worth_any c hc0 hc1
                  generalize worthR c = d at *
                  clear hbt hasc hlt
                  go_wp2_with (go_at_call 18; refine (hwa _).mono ?_; rintro e w' ⟨rfl, rfl⟩)
                  go_ret2
                  rw [numRes_no hno.out]
                  exact ⟨rfl, HB.alloc HB.size _⟩
                · have hgo := Lib.hid ((readB_go (n := n) hlt hge).symm.trans hrd.out)
                  generalize bt s2 pos = c at *
                  have hwa := worth_any c hc0 hc1
                  generalize worthR c = d at *
                  clear hbt hasc
                  go_wp2_with (go_at_call 18; refine (hwa _).mono ?_; rintro e w' ⟨rfl, rfl⟩)
                  go_roundw
                  case rel => exact ⟨pos + 1, _, rfl, rfl, hgo⟩
                  case measure => simp only [World.iterPos_iter]; omega
              · have hdh := decode_high s2 pos hlt (by omega)
                have hdl := decode_le s2 pos
                have hnx := fun ty => run_next_any (P := Try.prog) wc s2 pos ty hlt
                have hno := Lib.hid (hrd.out.symm.trans (readB_no (n := n) hlt (by rw [worth_high (by omega)]; exact hbb36)))
                have hwa := worth_any ((Utf8.decode s2 pos).1 : Int) (by omega) (by omega)
                rw [worth_high (by omega)] at hwa
                have hd := hdh.1
                clear hdh hdl
                generalize Utf8.decode s2 pos = cd at *
                obtain ⟨c, k⟩ := cd
                clear hbt hasc hlt
                go_wp2_with (go_at_call 18; refine (hwa _).mono ?_; rintro e w' ⟨rfl, rfl⟩)
                go_ret2
                rw [numRes_no hno.out]
                exact ⟨rfl, HB.alloc HB.size _⟩
            · have hnx := fun ty => run_next_end (P := Try.prog) wc s2 pos ty hlt
              have hyes := Lib.hid (hrd.out.symm.trans (readB_end (n := n) (b := bb) hlt))
              have hcell := iter_cell HC s2 pos
              clear hlt
              go_wp2
              go_quiet (fail)
              go_wp2
              go_ret2
              rw [numRes_yes hyes.out]
              rw [Int.one_mul]
              exact ⟨rfl, below_drewN (HB.alloc HB.size _) _⟩

        · go_wp2_with fail
          go_loopw [9] (fun v wr => ∃ (pos : Nat) (n : Int), v = .int .i64 n ∧ wr = World.iter wc s2 pos ∧ Hid (readB s2 bb pos n = readB s2 bb 0 0)) (fun _ wr => s2.size - wr.iterPos (World.heap wc).size)
          case atStart => exact ⟨0, 0, rfl, rfl, Lib.hid rfl⟩
          case round =>
            obtain ⟨pos, n, rfl, rfl, hrd⟩ := hrel
            by_cases hlt : pos < s2.size
            · have hbt := bt_at s2 pos hlt
              by_cases hasc : (s2[pos]'hlt).toNat < 128
              · have hnx := fun ty => run_next_ascii (P := Try.prog) wc s2 pos ty hlt hasc
                simp only [hbt] at hnx
                have hc0 : 0 ≤ bt s2 pos := by omega
                have hc1 : bt s2 pos ≤ 2147483647 := by omega
                have hwr := worth_range (bt s2 pos)
                by_cases hge : bb ≤ worthR (bt s2 pos)
                · have hno := Lib.hid (hrd.out.symm.trans (readB_no (n := n) hlt hge))
                  generalize bt s2 pos = c at *
                  have hwa := worth_any c hc0 hc1
                  generalize worthR c = d at *
                  clear hbt hasc hlt
                  go_wp2_with (go_at_call 18; refine (hwa _).mono ?_; rintro e w' ⟨rfl, rfl⟩)
                  go_ret2
                  rw [numRes_no hno.out]
                  exact ⟨rfl, HB.alloc HB.size _⟩
                · have hgo := Lib.hid ((readB_go (n := n) hlt hge).symm.trans hrd.out)
                  generalize bt s2 pos = c at *
                  have hwa := worth_any c hc0 hc1
                  generalize worthR c = d at *
                  clear hbt hasc
                  go_wp2_with (go_at_call 18; refine (hwa _).mono ?_; rintro e w' ⟨rfl, rfl⟩)
                  go_roundw
                  case rel => exact ⟨pos + 1, _, rfl, rfl, hgo⟩
                  case measure => simp only [World.iterPos_iter]; omega
              · have hdh := decode_high s2 pos hlt (by omega)
                have hdl := decode_le s2 pos
                have hnx := fun ty => run_next_any (P := Try.prog) wc s2 pos ty hlt
                have hno := Lib.hid (hrd.out.symm.trans (readB_no (n := n) hlt (by rw [worth_high (by omega)]; exact hbb36)))
                have hwa := worth_any ((Utf8.decode s2 pos).1 : Int) (by omega) (by omega)
                rw [worth_high (by omega)] at hwa
                have hd := hdh.1
                clear hdh hdl
                generalize Utf8.decode s2 pos = cd at *
                obtain ⟨c, k⟩ := cd
                clear hbt hasc hlt
                go_wp2_with (go_at_call 18; refine (hwa _).mono ?_; rintro e w' ⟨rfl, rfl⟩)
                go_ret2
                rw [numRes_no hno.out]
                exact ⟨rfl, HB.alloc HB.size _⟩
            · have hnx := fun ty => run_next_end (P := Try.prog) wc s2 pos ty hlt
              have hyes := Lib.hid (hrd.out.symm.trans (readB_end (n := n) (b := bb) hlt))
              have hcell := iter_cell HC s2 pos
              clear hlt
              go_wp2
              go_quiet (fail)
              go_wp2
              go_ret2
              rw [numRes_yes hyes.out]
              rw [show (-1 : Int) * n = -n by omega]
              exact ⟨rfl, below_drewN (HB.alloc HB.size _) _⟩


/-- What a word tells in a base. -/
def numAll (s : ByteArray) (b : Int) : Int × Bool :=
  if s.size = 3 ∧ bt s 0 = 39 ∧ bt s 2 = 39 then (bt s 1, true)
  else
    let s1 := if 0 < markAt s then s.extract 1 s.size else s
    let neg := decide (0 < s1.size ∧ bt s1 0 = 45)
    numRes (if neg = true then -1 else 1) (if neg = true then s1.extract 1 s1.size else s1) (if 0 < markAt s then markAt s else baseOf b)
theorem number_any (s : ByteArray) (b : Int) (w : World) : Calls Try.prog 8 #[.string s, .int .i64 b] w fun e w' => e = .returned (numV (numAll s b)) ∧ Below w.heap.size w w' := by
  unfold numAll
  by_cases hq : s.size = 3 ∧ bt s 0 = 39 ∧ bt s 2 = 39
  · rw [if_pos hq]
    exact number_q s b w hq.1 hq.2.1 hq.2.2
  · rw [if_neg hq]
    refine number_n s b w ?_ _ rfl _ rfl _ rfl _ rfl
    by_cases h1 : s.size = 3
    · by_cases h2 : bt s 0 = 39
      · exact .inr (.inr ⟨h1, h2, fun h3 => hq ⟨h1, h2, h3⟩⟩)
      · exact .inr (.inl ⟨h1, h2⟩)
    · exact .inl h1
end Go.Proofs.Ytkmnlbjnohjjgaa
