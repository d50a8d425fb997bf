/-
  LeBursts: the law's walk.
-/
import Derived.Test.YtghpnhiliihlaaaLeLaws
import Derived.Test.YtghpnhiliihlaaaLeBurst
namespace Go.Proofs.Ytghpnhiliihlaaa
set_option linter.unusedVariables false
set_option linter.unusedSimpArgs false
open Go.RowKit

theorem take_splice {α : Type} (C : List α) (k n : Nat) (M : List α) (h : k + M.length ≤ n) (hn : n ≤ C.length) : (splice C k M).take n = splice (C.take n) k M := by
  have h2 : C = C.take n ++ C.drop n := (List.take_append_drop n C).symm
  have hl : (C.take n).length = n := by rw [List.length_take]; omega
  have h3 : splice (C.take n ++ C.drop n) k M = splice (C.take n) k M ++ C.drop n := by
    simp only [splice]
    rw [List.take_append_of_le_length (by omega), List.drop_append_of_le_length (by omega)]
    simp
  have h4 : (splice C k M).take n = (splice (C.take n) k M ++ C.drop n).take n := by rw [← h3, ← h2]
  rw [h4, List.take_append_of_le_length (by rw [length_splice _ _ _ (by omega)]; omega), List.take_of_length_le (by rw [length_splice _ _ _ (by omega)]; omega)]
theorem OwnBytes.cap {w : World} {base : Nat} {A : Option Addr} {n c : Nat} {bs : List Int} (h : OwnBytes w base (.slice A n c) bs) : n ≤ c := by
  rcases h.2 with ⟨e, h0⟩ | ⟨g, cap, cur, e, h1, h2, h3, h4, h5, h6⟩
  · injection e with _ e2 e3; omega
  · injection e with e1 e2 e3; omega
/-- copy(c[k:], x) into a text of the call's own, where x fits. -/
theorem wpL_copyO {ops : Array Oper} {rest : List Oper} {o : Oper} {a : Act} {w : World} {Q : Exit → Act → World → Prop} (hgd : o.guard = none) (d s : Operand)
    (ho : o.op = .call { callee := .builtin .copy, args := #[d, s], argTypes := #[22, 22] }) (base : Nat) (P : Option Addr) (n cap : Nat) (L : List Int) (hown : OwnBytes w base (.slice P n cap) L)
    (dp : Option Addr) (dLen dCap k : Nat) (hd : a.eval d = .slice dp dLen dCap) (hdp : dp = if cap = k then P else P.map (·.add k)) (A : Option Addr) (m c : Nat) (hs : a.eval s = .slice A m c) (B : Nat) (cs : List Int) (hr : BytesAt w B A m cs)
    (hm : 0 < m) (hfit : k + m ≤ n) (hdl : m ≤ dLen) (w0 : World) (hb : Below base w0 w)
    (h : ∀ w', OwnBytes w' base (.slice P n cap) (splice L k cs) → Below base w0 w' → wpList Try.prog ops Q rest (a.put o.dst (goInt (m : Int))) w') :
    wpList Try.prog ops Q (o :: rest) a w := by
  obtain ⟨i0, hi, hz0, hz1, hz2⟩ := info_parts infoU8
  have hown1 := hown.1
  rcases hown.2 with ⟨e, h0⟩ | ⟨g, cap', cur, e, hge, hrow, hcap, hmx, hmax, htake⟩
  · injection e with _ e2 _; omega
  injection e with e1 e2 e3
  subst e1; subst e3; subst e2
  have hn : L.length = L.length := rfl
  simp only [Nat.mul_one] at hmax htake
  have hcs : (cs.map (Value.int .u8)).length = m := by rw [List.length_map, hr.1]
  have hcl : cur.toList.length = cap := by simpa using hmax
  have hcn : L.length ≤ cap := by omega
  rw [if_neg (by omega)] at hdp
  refine wpList_copy_splice hgd d s _ _ ho 5 Try.underlying22 (by rw [hi]; simp [hz1]) dp A dLen dCap m c hd hs g k cur.toList 5 (by simpa using hrow) (cs.map (Value.int .u8)) (by rw [hcs]; show m = min m dLen; omega)
    (fun h0 => ?_) (by rw [hcs, hcl]; omega) (fun v hv => by obtain ⟨x, _, rfl⟩ := List.mem_map.1 hv; rfl) base w0 hb hge ?_
  · refine ⟨by simpa [Addr.add_mid] using hdp, ?_⟩
    obtain ⟨b, of, rfl, _, hc⟩ := hr.2.2 hm
    refine ⟨_, rfl, fun j v hj => ?_⟩
    have hjl : j < m := by rw [← hcs]; exact (List.getElem?_eq_some_iff.1 hj).1
    rw [Addr.add_mid, hc j hjl]
    rw [List.getElem?_map] at hj
    have hjc : j < cs.length := by rw [hr.1]; omega
    rw [List.getElem?_eq_getElem hjc] at hj ⊢
    exact hj
  · intro w' hw' hb'
    rw [hcs]
    refine h w' ?_ hb'
    have hsl : (splice L k cs).length = L.length := length_splice L k cs (by rw [hr.1]; exact hfit)
    refine ⟨by simp, .inr ⟨g, cap, (splice cur.toList k (cs.map (Value.int .u8))).toArray, by rw [hsl], hge, hw'.out, by rw [hsl]; exact hcap, hmx, ?_, ?_⟩⟩
    · rw [List.size_toArray, length_splice _ _ _ (by rw [hcs, hcl]; omega)]; simpa using hcl
    · simp only [Nat.mul_one]
      rw [hsl, ← splice_ints, ← htake]
      exact take_splice _ _ _ _ (by rw [hcs]; exact hfit) (by rw [hcl]; exact hcn)
theorem splice_get {L cs : List Int} {k i : Nat} (h : k + cs.length ≤ L.length) (hi : i < k ∨ k + cs.length ≤ i) : (splice L k cs)[i]?.getD 0 = L[i]?.getD 0 := by
  have hl : (L.take k).length = k := by rw [List.length_take]; omega
  rw [splice]
  rcases hi with hi | hi
  · rw [List.getElem?_append_left (by omega), List.getElem?_take_of_lt hi]
  · rw [List.getElem?_append_right (by omega), hl, List.getElem?_append_right (by omega), List.getElem?_drop]
    congr 2; omega
theorem splice_range {L cs : List Int} (k : Nat) (h : ∀ x ∈ L, 0 ≤ x ∧ x < 256) (h' : ∀ x ∈ cs, 0 ≤ x ∧ x < 256) : ∀ x ∈ splice L k cs, 0 ≤ x ∧ x < 256 := by
  intro x hx
  rw [splice, List.mem_append, List.mem_append] at hx
  rcases hx with hx | hx | hx
  · exact h x (List.mem_of_mem_take hx)
  · exact h' x hx
  · exact h x (List.mem_of_mem_drop hx)
set_option maxHeartbeats 1000000 in
theorem leBursts_walk (W : World) (a : Option Addr) (len cap : Nat) (bs : List Int) (hB : BytesAt W W.heap.size a len bs) (hlc : len ≤ cap) (hc : cap ≤ 140737488351232)
    (at_ : Int) (wa : (Lit.int .i64 at_).wf = true) (a' : Option Addr) (lx capx : Nat) (xs : List Int) (hx : BytesAt W W.heap.size a' lx xs) (hlx : lx ≤ capx) (hcx : capx ≤ 140737488351232) :
    Calls Try.prog 5 #[.slice a len cap, .int .i64 at_, .slice a' lx capx] W fun e W' => e = .returned (.bool true) ∧ Below W.heap.size W W' := by
  have ha := i64_wf wa
  have hw8 : wrap64 ((len : Int) - lx) = (len : Int) - lx := wrap64_of (by omega) (by omega)
  have hs : 2000 < len ∨ len ≤ 2000 ∧ 4 < lx ∨ len ≤ 2000 ∧ lx ≤ 4 ∧ at_ < 0 ∨ len ≤ 2000 ∧ lx ≤ 4 ∧ 0 ≤ at_ ∧ (len : Int) - lx < at_ ∨ len ≤ 2000 ∧ lx ≤ 4 ∧ 0 ≤ at_ ∧ at_ + lx ≤ len := by omega
  rcases hs with s0 | ⟨s0, s1⟩ | ⟨s0, s1, s2⟩ | ⟨s0, s1, s2, s3⟩ | ⟨s0, s1, s2, s3⟩
  iterate 4
    · go_enter Try.func5, Try.ntmps5
      go_wp2_with fail
      refine (leAwake_any _).mono ?_
      rintro e w1 ⟨rfl, hb1⟩
      go_wp2_with fail
      go_ret
      exact ⟨rfl, hb1⟩
  obtain ⟨k, rfl⟩ := Int.eq_ofNat_of_zero_le s2
  obtain rfl : bs.length = len := hB.1
  obtain rfl : xs.length = lx := hx.1
  have hw9 : (k : Int) ≤ (bs.length : Int) - xs.length := by omega
  have hfit : k + xs.length ≤ bs.length := by omega
  have hkl : k ≤ bs.length := by omega
  have hsr := splice_range k hB.2.1 hx.2.1
  have hsl : (splice bs k xs).length = bs.length := length_splice bs k xs hfit
  have hsum : ¬ bs = splice bs k xs → ¬ ((4294967295 ^^^ crcTo bs bs.length : Nat) : Int) = ((4294967295 ^^^ crcTo (splice bs k xs) bs.length : Nat) : Int) := by
    intro hne he
    have h1 := sum_ne (Int.ofNat.inj he)
    exact hne (same_of_get hsl.symm (crc_burst hB.2.1 hsr bs.length k xs.length s1 hfit (fun i hi => (splice_get hfit hi).symm) h1))
  go_enter Try.func5, Try.ntmps5
  go_wp2_with fail
  refine (leAwake_any _).mono ?_
  rintro e w1 ⟨rfl, hb1⟩
  have h1 := hB.below hb1
  by_cases hm : xs.length = 0
  · have hxs : splice bs k xs = bs := by
      obtain rfl : xs = [] := List.eq_nil_of_length_eq_zero hm
      simp [splice]
    clear hsum hsr hsl hxs
    go_wp2_with (first
      | (at_builtin; refine wpL_app rfl _ _ rfl W.heap.size (.slice none 0 0) [] rfl (World.ownsRow_nil _ _ _ _) W.heap.size a bs.length cap bs rfl h1 (by simp; omega) hb1.size ?_; intro A' c' w2 hown hg hrow; rw [List.nil_append] at hown; have hcp := hown.cap; have hb2 : Below W.heap.size W w2 := (hb1.grown hg hb1.size (fun k e => by cases e)); clear hrow hg)
      | (refine wpList_copy_nothing rfl (.tmp 35) (.tmp 36) _ _ rfl 5 Try.underlying22 (by obtain ⟨i0, hi, hz0, hz1, hz2⟩ := info_parts infoU8; rw [hi]; simp [hz1]) _ _ _ _ _ _ rfl rfl (by first | exact Nat.zero_min _ | (rw [hm]; exact Nat.zero_min _)) ?_))
    all_goals
      have h2 := hB.below ‹Below W.heap.size W w2›
      refine (same_any _ _ _ _ _ _ _ _ _ _ _ h2 (hown.at_ h2.2.1)).mono ?_
      rintro e w4 ⟨rfl, rfl⟩
      rw [decide_eq_true (rfl : bs = bs)]
      go_wp2_with fail
      go_ret
      exact ⟨rfl, hb2⟩
  · go_wp2_with (first
      | (at_builtin; refine wpL_app rfl _ _ rfl W.heap.size (.slice none 0 0) [] rfl (World.ownsRow_nil _ _ _ _) W.heap.size a bs.length cap bs rfl h1 (by simp; omega) hb1.size ?_; intro A' c' w2 hown hg hrow; rw [List.nil_append] at hown; have hcp := hown.cap; have hck : ¬ c' = k := (by omega); have hb2 : Below W.heap.size W w2 := (hb1.grown hg hb1.size (fun k e => by cases e)); clear hrow hg)
      | (refine wpL_copyO rfl (.tmp 35) (.tmp 36) rfl W.heap.size A' bs.length c' bs hown (A'.map (·.add k)) (bs.length - k) (c' - k) k rfl (if_neg hck).symm a' xs.length capx rfl W.heap.size xs (hx.below hb2) (by omega) hfit (by omega) W hb2 ?_; intro w3 ho3 hb3))
    have h3 := hB.below hb3
    have hoa := ho3.at_ hsr
    refine (same_any _ _ _ _ _ _ _ _ _ _ _ h3 hoa).mono ?_
    rintro e w4 ⟨rfl, rfl⟩
    by_cases heq : bs = splice bs k xs
    · rw [decide_eq_true heq]
      clear heq hsum
      go_wp2_with fail
      go_ret
      exact ⟨rfl, hb3⟩
    · rw [decide_eq_false heq]
      have hne := hsum heq
      have c1 := crc_any a bs.length cap bs _ _ h3 (by omega)
      have c2 := crc_any A' bs.length c' (splice bs k xs) _ _ hoa (by omega)
      generalize 4294967295 ^^^ crcTo bs bs.length = u at *
      generalize 4294967295 ^^^ crcTo (splice bs k xs) bs.length = v at *
      go_wp2_with fail
      refine c1.mono ?_
      rintro e w5 ⟨rfl, rfl⟩
      go_wp2_with fail
      refine c2.mono ?_
      rintro e w5 ⟨rfl, rfl⟩
      go_wp2_with fail
      go_ret
      have hne' : ((u : Int) != (v : Int)) = true := by simpa using hne
      refine ⟨?_, hb3⟩
      show Ending.returned (.bool ((u : Int) != (v : Int))) = _
      rw [hne']

end Go.Proofs.Ytghpnhiliihlaaa
