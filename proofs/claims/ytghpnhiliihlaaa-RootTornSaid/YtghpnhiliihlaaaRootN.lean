/-
  RootTorn: what a torn sector is.
-/
import Derived.Test.YtghpnhiliihlaaaRootJ
import Derived.Test.YtghpnhiliihlaaaLeMixA
import Derived.Test.YtghpnhiliihlaaaLeMixB
import Derived.Test.YtghpnhiliihlaaaLeBurstLaw
import Derived.Laws.IdiomStrings
namespace Go.Proofs.Ytghpnhiliihlaaa.Root
open Go.RowKit Go.Shelf Go.Proofs.Ytghpnhiliihlaaa
open Go.Proofs.YtghpnhiliihlaaaW.PrintWords (Kd)
attribute [local go_sem] Oper.semAt_some
set_option linter.unusedVariables false
set_option linter.unusedSimpArgs false

open Classical in
/-- What Torn answers. -/
noncomputable def tornOf (old now is : List Int) : Int := if recOk is then (if is = now then 2 else if is = old then 1 else 3) else 0
/-- '[]byte(s)' of a string that was made of bytes. -/
theorem conv_bytes (w : World) (is : List Int) (hr : ∀ x ∈ is, 0 ≤ x ∧ x < 256) : ∃ cap W, (convert 9 22 (.string (strOfNums is))).run Try.prog w = .ok (.slice (some ⟨w.heap.size, 0, none⟩) is.length cap) W ∧ BytesAt W W.heap.size (some ⟨w.heap.size, 0, none⟩) is.length is ∧ is.length ≤ cap ∧ Below w.heap.size w W := by
  have h := run_bytes_of_string (P := Try.prog) w 9 22 5 (strOfNums is) Try.underlying9 Try.underlying22 Try.underlying5
  rw [strOfNums_size] at h
  refine ⟨_, _, h, ⟨rfl, hr, fun hn => ⟨_, _, rfl, by simp, fun i hi => ?_⟩⟩, grownCap_ge w _ _ _, (Below.refl _ _).drew.alloc (by simp) _⟩
  have hh := heap_alloc_new w.drew (.cells (bytesRow (strOfNums is) (grownCap w is.length 0 5)) 5 ((bytesRow (strOfNums is) (grownCap w is.length 0 5)).size, (bytesRow (strOfNums is) (grownCap w is.length 0 5)).size + 1))
  have hc := cell_of_row _ _ i _ _ _ hh
  have hsz : i < (strOfNums is).data.size := by
    have : (strOfNums is).data.size = is.length := strOfNums_size is
    omega
  rw [bytesRow_at _ _ i hsz] at hc
  rw [Nat.zero_add]
  refine hc.trans ?_
  have e : (strOfNums is).data[i].toNat = (is[i]?.getD 0).toNat := by
    have h1 : (strOfNums is).data[i]? = some (UInt8.ofNat (is[i]?.getD 0).toNat) := by
      show ((is.map fun n => UInt8.ofNat n.toNat).toArray)[i]? = _
      rw [List.getElem?_toArray, List.getElem?_map, List.getElem?_eq_getElem hi]
      rfl
    rw [Array.getElem?_eq_getElem hsz] at h1
    rw [Option.some.inj h1, UInt8.toNat_ofNat']
    have := hr _ (List.getElem_mem hi)
    rw [List.getElem?_eq_getElem hi, Option.getD_some]
    omega
  rw [e]
  have := hr _ (List.getElem_mem hi)
  rw [List.getElem?_eq_getElem hi, Option.getD_some, Int.toNat_of_nonneg this.1]
theorem mixOf_range {a b : List Int} {k : Nat} {head : Bool} (hk : k ≤ a.length) (ha : ∀ x ∈ a, 0 ≤ x ∧ x < 256) (hb : ∀ x ∈ b, 0 ≤ x ∧ x < 256) : ∀ x ∈ mixOf a b k head, 0 ≤ x ∧ x < 256 := by
  have hp : ∀ x ∈ padTo a.length b, 0 ≤ x ∧ x < 256 := by
    intro x hx
    unfold padTo at hx
    rcases List.mem_append.1 hx with h | h
    · exact hb x (List.mem_of_mem_take h)
    · exact nots_range _ x h
  intro x hx
  unfold mixOf at hx
  split at hx
  · rcases List.mem_append.1 hx with h | h
    · exact ha x (List.mem_of_mem_take h)
    · exact hp x (List.mem_of_mem_drop h)
  · rcases List.mem_append.1 hx with h | h
    · exact hp x (List.mem_of_mem_take h)
    · exact ha x (List.mem_of_mem_drop h)
set_option maxRecDepth 100000 in
set_option maxHeartbeats 2000000 in
theorem torn_any (A A' : Option Addr) (n n' c c' : Nat) (old now : List Int) (cut : Int) (head : Bool) (w : World) (ha : BytesAt w w.heap.size A n old) (hb : BytesAt w w.heap.size A' n' now) (hnc : n ≤ c) (hc : c ≤ 140737488351232) (hnc' : n' ≤ c') (hc' : c' ≤ 140737488351232) :
    Calls Try.prog 37 #[.slice A n c, .slice A' n' c', .int .i64 cut, .bool head] w fun e w' => e = .returned (.int .i64 (tornOf old now (mixOf now old (cutOf cut n') head))) ∧ Below w.heap.size w w' := by
  have hM := mix_any A' A n' n c' c now old cut head w hb ha hnc' (by omega) (by omega) (by omega)
  have hkl : cutOf cut n' ≤ now.length := by rw [hb.1]; unfold cutOf; omega
  have hr := mixOf_range (head := head) hkl hb.2.1 ha.2.1
  have hlen : (mixOf now old (cutOf cut n') head).length = n' := by rw [mixOf_length hkl, hb.1]
  generalize mixOf now old (cutOf cut n') head = is at *
  go_enter Try.func37, Try.ntmps37
  go_wp2_with fail
  refine hM.mono ?_
  rintro e w1 ⟨⟨A1, c1, rfl, ho1⟩, hb1⟩
  have hB1 := ho1.at_ hr
  have hs1 := run_str (c := c1) hB1
  obtain ⟨cap, W2, hcv, hB2, hcap, hb2⟩ := conv_bytes w1 is hr
  rw [hlen] at hcv hB2 hcap
  have hbB := hb1.trans (hb2.mono hb1.size)
  clear ho1 hB1 hb2
  go_wp2_with fail
  refine (decode_is (some ⟨w1.heap.size, 0, none⟩) n' cap is W2 hB2 hcap (by omega)).mono ?_
  rintro e W3 ⟨hb3, v3, rfl, A3, c3, rfl, ho3⟩
  have hbC := (hbB.trans (hb3.mono hbB.size)).alloc (Nat.le_trans hbB.size hb3.size) (.cells #[.int .u64 (decG is), .slice A3 (decL is).length c3] 40)
  by_cases hrec : recOk is
  · rw [decE_yes hrec]
    have hnow := run_str (c := c') (hb.below hbC)
    have hold := run_str (c := c) (ha.below hbC)
    have q1 := strOfNums_eq hr hb.2.1
    have q2 := strOfNums_eq hr ha.2.1
    clear hs1 hcv hB2 ho3 hb3
    by_cases h1 : is = now
    · have hans : tornOf old now is = 2 := by unfold tornOf; rw [if_pos hrec, if_pos h1]
      rw [decide_eq_true h1] at q1
      clear h1 q2
      generalize decG is = g at *
      generalize decL is = l at *
      go_wp2_with fail
      go_ret
      rw [hans]
      exact ⟨rfl, hbC⟩
    · rw [decide_eq_false h1] at q1
      by_cases h2 : is = old
      · have hans : tornOf old now is = 1 := by unfold tornOf; rw [if_pos hrec, if_neg h1, if_pos h2]
        rw [decide_eq_true h2] at q2
        clear h1 h2
        generalize decG is = g at *
        generalize decL is = l at *
        go_wp2_with fail
        go_ret
        rw [hans]
        exact ⟨rfl, hbC⟩
      · have hans : tornOf old now is = 3 := by unfold tornOf; rw [if_pos hrec, if_neg h1, if_neg h2]
        rw [decide_eq_false h2] at q2
        clear h1 h2
        generalize decG is = g at *
        generalize decL is = l at *
        go_wp2_with fail
        go_ret
        rw [hans]
        exact ⟨rfl, hbC⟩
  · have hans : tornOf old now is = 0 := by unfold tornOf; rw [if_neg hrec]
    rw [decE_no hrec]
    clear hs1 hcv hB2 ho3 hb3
    generalize decG is = g at *
    generalize decL is = l at *
    go_wp2_with fail
    go_ret
    rw [hans]
    exact ⟨rfl, hbC⟩
theorem rec_same {is now : List Int} (h1 : isBytes is) (h2 : isBytes now) (r1 : recOk is) (r2 : recOk now) : (decG is = decG now ∧ decL is = decL now) ↔ is = now := by
  refine ⟨fun h => ?_, fun h => by subst h; exact ⟨rfl, rfl⟩⟩
  have e1 := (rdec_of_rec h1 r1).same
  have e2 := (rdec_of_rec h2 r2).same
  rw [← decG_yes r1, ← decL_yes r1, h.1, h.2] at e1
  rw [← decG_yes r2, ← decL_yes r2] at e2
  rw [e1, ← e2]
theorem tornOf_is {old now is : List Int} (hi : isBytes is) (hn : isBytes now) (ho : isBytes old) (hrec : recOk is) :
    tornOf old now is = if decE now = 0 ∧ (decG is = decG now ∧ decL is = decL now) then 2 else if decE old = 0 ∧ (decG is = decG old ∧ decL is = decL old) then 1 else 3 := by
  have key : ∀ x, isBytes x → ((decE x = 0 ∧ (decG is = decG x ∧ decL is = decL x)) ↔ is = x) := fun x hx => by
    constructor
    · rintro ⟨a, b⟩
      exact (rec_same hi hx hrec (decE_zero.1 a)).1 b
    · rintro rfl
      exact ⟨decE_yes hrec, rfl, rfl⟩
  unfold tornOf
  rw [if_pos hrec]
  by_cases c1 : is = now
  · rw [if_pos c1, if_pos ((key now hn).2 c1)]
  · rw [if_neg c1, if_neg (fun h => c1 ((key now hn).1 h))]
    by_cases c2 : is = old
    · rw [if_pos c2, if_pos ((key old ho).2 c2)]
    · rw [if_neg c2, if_neg (fun h => c2 ((key old ho).1 h))]
/-- A root's box, and the root in it. -/
def BoxIs (W : World) (b : Nat) (g : Int) (l : List S63) : Prop := ∃ A c, W.heap[b]? = some (.cells #[.int .u64 g, .slice A l.length c] 40 (0, 0)) ∧ l.length ≤ c ∧ SnapsAt W A l
theorem BoxIs.below {W W' : World} {b : Nat} {g : Int} {l : List S63} (h : BoxIs W b g l) (hb : Below W.heap.size W W') : BoxIs W' b g l := by
  obtain ⟨A, c, h1, h2, h3⟩ := h
  exact ⟨A, c, blk_below h1 hb (blk_lt h1), h2, h3.below hb⟩
theorem box_new {W : World} {base : Nat} {A : Option Addr} {c : Nat} {g : Int} {l : List S63} (ho : OwnSnaps W base (.slice A l.length c) l) : BoxIs (W.alloc (.cells #[.int .u64 g, .slice A l.length c] 40)) W.heap.size g l := by
  obtain ⟨_, h1, h2⟩ := Kd.R_reads' ho
  exact ⟨A, c, heap_alloc_new _ _, h1, SnapsAt.below h2 ((Below.refl _ _).alloc (Nat.le_refl _) _)⟩
set_option maxRecDepth 100000 in
set_option maxHeartbeats 4000000 in
theorem rtorn_any (A A' : Option Addr) (n n' c c' : Nat) (old now : List Int) (cut : Int) (head : Bool) (w : World) (ha : BytesAt w w.heap.size A n old) (hb : BytesAt w w.heap.size A' n' now) (hnc : n ≤ c) (hc : c ≤ 140737488351232) (hnc' : n' ≤ c') (hc' : c' ≤ 140737488351232) :
    Calls Try.prog 38 #[.slice A n c, .slice A' n' c', .int .i64 cut, .bool head] w fun e w' => e = .returned (.int .i64 (tornOf old now (mixOf now old (cutOf cut n') head))) ∧ Below w.heap.size w w' := by
  have hM := rmix_any A' A n' n c' c now old cut head w hb ha hnc' (by omega) (by omega) (by omega)
  have hkl : cutOf cut n' ≤ now.length := by rw [hb.1]; unfold cutOf; omega
  have hr := mixOf_range (head := head) hkl hb.2.1 ha.2.1
  have hlen : (mixOf now old (cutOf cut n') head).length = n' := by rw [mixOf_length hkl, hb.1]
  generalize mixOf now old (cutOf cut n') head = is at *
  go_enter Try.func38, Try.ntmps38
  go_wp2_with fail
  refine hM.mono ?_
  rintro e w1 ⟨⟨A1, c1, rfl, ho1⟩, hb1⟩
  have hB1 := ho1.at_ hr
  have hcap : n' ≤ c1 := by
    have := ho1
    rw [← hlen] at this
    rw [← hlen]
    exact OwnBytes.cap this
  clear ho1
  go_wp2_with fail
  refine (rdecode_is A1 n' c1 is w1 hB1 hcap (by omega)).mono ?_
  rintro e W3 ⟨hb3, v3, rfl, A3, c3, rfl, ho3⟩
  have hbC := (hb1.trans (hb3.mono hb1.size)).alloc (Nat.le_trans hb1.size hb3.size) (.cells #[.int .u64 (decG is), .slice A3 (decL is).length c3] 40)
  by_cases hrec : recOk is
  · have hans := tornOf_is hr hb.2.1 ha.2.1 hrec
    have hbox := box_new (g := decG is) ho3
    have hle := decL_le is
    have hlen0 := decL_le now
    have hlo0 := decL_le old
    rw [decE_yes hrec]
    clear hrec hB1 ho3 hb3
    generalize decG is = g at *
    generalize decL is = l at *
    go_wp2_with fail
    generalize W3.alloc (.cells #[.int .u64 g, .slice A3 l.length c3] 40) = W4 at hbC hbox ⊢
    generalize W3.heap.size = b4 at hbox ⊢
    refine (rdecode_is A' n' c' now W4 ((hb.below hbC).more hbC.size) hnc' (by omega)).mono ?_
    rintro e W5 ⟨hb5, v5, rfl, A5, c5, rfl, ho5⟩
    have hbD := (hbC.trans (hb5.mono hbC.size)).alloc (Nat.le_trans hbC.size hb5.size) (.cells #[.int .u64 (decG now), .slice A5 (decL now).length c5] 40)
    have hbox5 := (hbox.below hb5).below ((Below.refl _ _).alloc (Nat.le_refl _) (.cells #[.int .u64 (decG now), .slice A5 (decL now).length c5] 40))
    have hnew5 := box_new (g := decG now) ho5
    clear hbox hb5 ho5
    generalize decG now = gn at *
    generalize decL now = ln at *
    generalize decE now = en at *
    obtain ⟨B4, d4, x4, l4, s4⟩ := hbox5
    obtain ⟨B5, d5, x5, l5, s5⟩ := hnew5
    have e5 : #[Value.int .u64 gn, .slice B5 ln.length d5] = #[Value.int .u64 gn, .slice A5 ln.length c5] := by
      have h9 := heap_alloc_new W5 (.cells #[.int .u64 gn, .slice A5 ln.length c5] 40)
      rw [x5] at h9
      injection h9 with h9
      injection h9
    cases e5
    have q0 := cell_of_row _ _ 0 _ _ _ x4
    have q1 := cell_of_row _ _ 1 _ _ _ x4
    have q2 := cell_of_row _ _ 0 _ _ _ x5
    have q3 := cell_of_row _ _ 1 _ _ _ x5
    change _ = some (Value.int .u64 g) at q0
    change _ = some (Value.slice B4 l.length d4) at q1
    change _ = some (Value.int .u64 gn) at q2
    change _ = some (Value.slice A5 ln.length c5) at q3
    have hS := same03_any g gn B4 A5 d4 c5 l ln _ s4 l4 s5 l5 (by omega)
    have hbox6 : BoxIs (W5.alloc (.cells #[.int .u64 gn, .slice A5 ln.length c5] 40)) b4 g l := ⟨B4, d4, x4, l4, s4⟩
    clear x4 x5 s4 s5
    by_cases c1' : en = 0
    · subst c1'
      by_cases c2' : g = gn ∧ l = ln
      · rw [decide_eq_true c2'] at hS
        rw [if_pos ⟨rfl, c2'⟩] at hans
        clear c2' hbox6
        go_wp2_with fail
        refine hS.mono ?_
        rintro e W8 ⟨rfl, hb8⟩
        have hbF := hbD.trans (hb8.mono hbD.size)
        go_wp2_with fail
        go_ret
        rw [hans]
        exact ⟨rfl, hbF⟩
      · rw [decide_eq_false c2'] at hS
        have k0 : ¬ ((0 : Int) = 0 ∧ g = gn ∧ l = ln) := fun h => c2' h.2
        have K0 := Lib.hid k0
        have Hans := Lib.hid hans
        clear c2' k0 hans
        go_wp2_with fail
        refine hS.mono ?_
        rintro e WN ⟨rfl, hb8⟩
        have hbN := hbD.trans (hb8.mono hbD.size)
        have hboxN := hbox6.below hb8
        clear hbox6 hb8 q0 q1 q2 q3
        go_wp2_with fail
        have k0 := K0.out
        have hans := Hans.out
        clear K0 Hans
        refine (rdecode_is A n c old WN ((ha.below hbN).more hbN.size) hnc (by omega)).mono ?_
        rintro e W7 ⟨hb7, v7, rfl, A7, c7, rfl, ho7⟩
        have hbE := (hbN.trans (hb7.mono hbN.size)).alloc (Nat.le_trans hbN.size hb7.size) (.cells #[.int .u64 (decG old), .slice A7 (decL old).length c7] 40)
        have hbox7 := (hboxN.below hb7).below ((Below.refl _ _).alloc (Nat.le_refl _) (.cells #[.int .u64 (decG old), .slice A7 (decL old).length c7] 40))
        have hnew7 := box_new (g := decG old) ho7
        clear hboxN hb7 ho7
        generalize decG old = go at *
        generalize decL old = lo at *
        generalize decE old = eo at *
        obtain ⟨B4, d4, x4, l4, s4⟩ := hbox7
        obtain ⟨B5, d5, x5, l5, s5⟩ := hnew7
        have e5 : #[Value.int .u64 go, .slice B5 lo.length d5] = #[Value.int .u64 go, .slice A7 lo.length c7] := by
          have h9 := heap_alloc_new W7 (.cells #[.int .u64 go, .slice A7 lo.length c7] 40)
          rw [x5] at h9
          injection h9 with h9
          injection h9
        cases e5
        have q0 := cell_of_row _ _ 0 _ _ _ x4
        have q1 := cell_of_row _ _ 1 _ _ _ x4
        have q2 := cell_of_row _ _ 0 _ _ _ x5
        have q3 := cell_of_row _ _ 1 _ _ _ x5
        change _ = some (Value.int .u64 g) at q0
        change _ = some (Value.slice B4 l.length d4) at q1
        change _ = some (Value.int .u64 go) at q2
        change _ = some (Value.slice A7 lo.length c7) at q3
        have hS := same03_any g go B4 A7 d4 c7 l lo _ s4 l4 s5 l5 (by omega)
        clear x4 x5 s4 s5
        by_cases k1 : eo = 0
        · subst k1
          by_cases k2 : g = go ∧ l = lo
          · rw [decide_eq_true k2] at hS
            rw [if_neg k0, if_pos ⟨rfl, k2⟩] at hans
            clear k2 k0
            go_wp2_with fail
            refine hS.mono ?_
            rintro e W8 ⟨rfl, hb8⟩
            have hbF := hbE.trans (hb8.mono hbE.size)
            go_wp2_with fail
            go_ret
            rw [hans]
            exact ⟨rfl, hbF⟩
          · rw [decide_eq_false k2] at hS
            rw [if_neg k0, if_neg (fun h => k2 h.2)] at hans
            clear k2 k0
            go_wp2_with fail
            refine hS.mono ?_
            rintro e W8 ⟨rfl, hb8⟩
            have hbF := hbE.trans (hb8.mono hbE.size)
            go_wp2_with fail
            go_ret
            rw [hans]
            exact ⟨rfl, hbF⟩
        · rw [if_neg k0, if_neg (fun h => k1 h.1)] at hans
          have b1 : (eo == 0) = false := beq_eq_false_iff_ne.2 k1
          clear k1 k0
          go_wp2_with fail
          go_ret
          rw [hans]
          exact ⟨rfl, hbE⟩
    · have b1 : (en == 0) = false := beq_eq_false_iff_ne.2 c1'
      have k0 : ¬ (en = 0 ∧ g = gn ∧ l = ln) := fun h => c1' h.1
      have K0 := Lib.hid k0
      have Hans := Lib.hid hans
      clear k0 hans c1'
      go_wp2_with fail
      have k0 := K0.out
      have hans := Hans.out
      clear K0 Hans q0 q1 q2 q3
      generalize W5.alloc (.cells #[.int .u64 gn, .slice A5 ln.length c5] 40) = WN at hbD hbox6 ⊢
      have hbN := hbD
      have hboxN := hbox6
      clear hbox6 hbD hS
      refine (rdecode_is A n c old WN ((ha.below hbN).more hbN.size) hnc (by omega)).mono ?_
      rintro e W7 ⟨hb7, v7, rfl, A7, c7, rfl, ho7⟩
      have hbE := (hbN.trans (hb7.mono hbN.size)).alloc (Nat.le_trans hbN.size hb7.size) (.cells #[.int .u64 (decG old), .slice A7 (decL old).length c7] 40)
      have hbox7 := (hboxN.below hb7).below ((Below.refl _ _).alloc (Nat.le_refl _) (.cells #[.int .u64 (decG old), .slice A7 (decL old).length c7] 40))
      have hnew7 := box_new (g := decG old) ho7
      clear hboxN hb7 ho7
      generalize decG old = go at *
      generalize decL old = lo at *
      generalize decE old = eo at *
      obtain ⟨B4, d4, x4, l4, s4⟩ := hbox7
      obtain ⟨B5, d5, x5, l5, s5⟩ := hnew7
      have e5 : #[Value.int .u64 go, .slice B5 lo.length d5] = #[Value.int .u64 go, .slice A7 lo.length c7] := by
        have h9 := heap_alloc_new W7 (.cells #[.int .u64 go, .slice A7 lo.length c7] 40)
        rw [x5] at h9
        injection h9 with h9
        injection h9
      cases e5
      have q0 := cell_of_row _ _ 0 _ _ _ x4
      have q1 := cell_of_row _ _ 1 _ _ _ x4
      have q2 := cell_of_row _ _ 0 _ _ _ x5
      have q3 := cell_of_row _ _ 1 _ _ _ x5
      change _ = some (Value.int .u64 g) at q0
      change _ = some (Value.slice B4 l.length d4) at q1
      change _ = some (Value.int .u64 go) at q2
      change _ = some (Value.slice A7 lo.length c7) at q3
      have hS := same03_any g go B4 A7 d4 c7 l lo _ s4 l4 s5 l5 (by omega)
      clear x4 x5 s4 s5
      by_cases k1 : eo = 0
      · subst k1
        by_cases k2 : g = go ∧ l = lo
        · rw [decide_eq_true k2] at hS
          rw [if_neg k0, if_pos ⟨rfl, k2⟩] at hans
          clear k2 k0
          go_wp2_with fail
          refine hS.mono ?_
          rintro e W8 ⟨rfl, hb8⟩
          have hbF := hbE.trans (hb8.mono hbE.size)
          go_wp2_with fail
          go_ret
          rw [hans]
          exact ⟨rfl, hbF⟩
        · rw [decide_eq_false k2] at hS
          rw [if_neg k0, if_neg (fun h => k2 h.2)] at hans
          clear k2 k0
          go_wp2_with fail
          refine hS.mono ?_
          rintro e W8 ⟨rfl, hb8⟩
          have hbF := hbE.trans (hb8.mono hbE.size)
          go_wp2_with fail
          go_ret
          rw [hans]
          exact ⟨rfl, hbF⟩
      · rw [if_neg k0, if_neg (fun h => k1 h.1)] at hans
        have b1 : (eo == 0) = false := beq_eq_false_iff_ne.2 k1
        clear k1 k0
        go_wp2_with fail
        go_ret
        rw [hans]
        exact ⟨rfl, hbE⟩
  · have hans : tornOf old now is = 0 := by unfold tornOf; rw [if_neg hrec]
    rw [decE_no hrec]
    clear hB1 ho3 hb3
    generalize decG is = g at *
    generalize decL is = l at *
    go_wp2_with fail
    go_ret
    rw [hans]
    exact ⟨rfl, hbC⟩
set_option maxRecDepth 100000 in
set_option maxHeartbeats 2000000 in
theorem tornlaw_walk (w : World) (A A' : Option Addr) (n c n' c' : Nat) (old now : List Int) (cut : Int) (head : Bool) (ha : BytesAt w w.heap.size A n old) (hb : BytesAt w w.heap.size A' n' now) (hnc : n ≤ c) (hc : c ≤ 140737488351232) (hnc' : n' ≤ c') (hc' : c' ≤ 140737488351232) (hn : n + n' ≤ 1000) :
    Calls Try.prog 14 #[.slice A n c, .slice A' n' c', .int .i64 cut, .bool head] w fun e w' => e = .returned (.bool true) ∧ Below w.heap.size w w' := by
  have hni : ¬ (1000 : Int) < (n : Int) + (n' : Int) := by omega
  have hws : wrap64 ((n : Int) + (n' : Int)) = (n : Int) + (n' : Int) := wrap64_of (by omega) (by omega)
  go_enter Try.func14, Try.ntmps14
  go_wp2_with fail
  refine (rootAwake_any w).mono ?_
  rintro e w1 ⟨rfl, hb1⟩
  go_wp2_with fail
  refine (torn_any A A' n n' c c' old now cut head w1 ((ha.below hb1).more hb1.size) ((hb.below hb1).more hb1.size) hnc hc hnc' hc').mono ?_
  rintro e W2 ⟨rfl, hb2⟩
  have hbB := hb1.trans (hb2.mono hb1.size)
  go_wp2_with fail
  refine (rtorn_any A A' n n' c c' old now cut head W2 ((ha.below hbB).more hbB.size) ((hb.below hbB).more hbB.size) hnc hc hnc' hc').mono ?_
  rintro e W3 ⟨rfl, hb3⟩
  have hbC := hbB.trans (hb3.mono hbB.size)
  go_wp2_with fail
  go_ret
  exact ⟨rfl, hbC⟩
theorem tornlaw_long (w : World) (A A' : Option Addr) (n c n' c' : Nat) (cut : Int) (head : Bool) (hc : n ≤ 140737488351232) (hc' : n' ≤ 140737488351232) (hn : ¬ n + n' ≤ 1000) :
    Calls Try.prog 14 #[.slice A n c, .slice A' n' c', .int .i64 cut, .bool head] w fun e w' => e = .returned (.bool true) ∧ Below w.heap.size w w' := by
  have hni : (1000 : Int) < (n : Int) + (n' : Int) := by omega
  have hws : wrap64 ((n : Int) + (n' : Int)) = (n : Int) + (n' : Int) := wrap64_of (by omega) (by omega)
  go_enter Try.func14, Try.ntmps14
  go_wp2_with fail
  refine (rootAwake_any w).mono ?_
  rintro e w1 ⟨rfl, hb1⟩
  go_wp2_with fail
  go_ret
  exact ⟨rfl, hb1⟩
end Go.Proofs.Ytghpnhiliihlaaa.Root
namespace Go.Proofs.Ytghpnhiliihlaaa
open Go.RowKit
theorem rootTorn_walk (W : World) (a : Option Addr) (len cap : Nat) (bs : List Int) (h : BytesAt W W.heap.size a len bs) (hlc : len ≤ cap) (hc : cap ≤ 140737488351232)
    (a' : Option Addr) (len' cap' : Nat) (bs' : List Int) (h' : BytesAt W W.heap.size a' len' bs') (hlc' : len' ≤ cap') (hc' : cap' ≤ 140737488351232) (cut : Int) (_ : (Lit.int .i64 cut).wf = true) (head : Bool) :
    Calls Try.prog 14 #[.slice a len cap, .slice a' len' cap', .int .i64 cut, .bool head] W fun e W' => e = .returned (.bool true) ∧ Below W.heap.size W W' := by
  by_cases hn : len + len' ≤ 1000
  · exact Root.tornlaw_walk W a a' len cap len' cap' bs bs' cut head h h' hlc hc hlc' hc' hn
  · exact Root.tornlaw_long W a a' len cap len' cap' cut head (by omega) (by omega) hn
end Go.Proofs.Ytghpnhiliihlaaa
