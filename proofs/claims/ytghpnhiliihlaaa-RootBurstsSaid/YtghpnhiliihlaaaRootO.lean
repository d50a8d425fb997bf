/-
  RootBursts: a record of which at most four bytes side by side are changed is no record.
-/
import Derived.Test.YtghpnhiliihlaaaRootL
import Derived.Test.YtghpnhiliihlaaaLeBurstLaw
namespace Go.Proofs.Ytghpnhiliihlaaa.Root
open Go.RowKit Go.Shelf Go.Proofs.Ytghpnhiliihlaaa
open Go.Proofs.YtghpnhiliihlaaaW.PrintWords (Kd)
attribute [local go_sem] Oper.semAt_some
set_option linter.unusedVariables false
set_option linter.unusedSimpArgs false

theorem sum_is {b : List Int} (h : recOk b) : numTo b 60 4 = ((4294967295 ^^^ crcTo b 60 : Nat) : Int) := by
  rw [h.sum, crcTo_same (bs := b.take 60) (cs := b) (k := 60) (fun i hi => by rw [List.getElem?_take_of_lt hi]) 60 (Nat.le_refl _)]
theorem sum_bytes {b c : List Int} (hb : isBytes b) (hc : isBytes c) (rb : recOk b) (rc : recOk c) (he : crcTo b 60 = crcTo c 60) (i : Nat) (hi : i < 4) : b[60 + i]?.getD 0 = c[60 + i]?.getD 0 := by
  have h1 := byte_of_num hb 60 4 (by omega) (by rw [rb.len]; omega) i hi
  have h2 := byte_of_num hc 60 4 (by omega) (by rw [rc.len]; omega) i hi
  have e1 := sum_is rb
  have e2 := sum_is rc
  rw [he, ← e2] at e1
  rw [h1, h2]
  exact congrArg (fun z => byteOf z i) e1
theorem xor_low {u v n : Nat} (h : u / 2 ^ n = v / 2 ^ n) : u ^^^ v < 2 ^ n := by
  have h1 : (u ^^^ v) >>> n = 0 := by
    rw [Nat.shiftRight_xor_distrib, Nat.shiftRight_eq_div_pow, Nat.shiftRight_eq_div_pow, h, Nat.xor_self]
  rw [Nat.shiftRight_eq_div_pow] at h1
  exact Nat.lt_of_div_eq_zero (Nat.two_pow_pos n) h1
theorem byteOf_nat (u i : Nat) : byteOf (u : Int) i = ((u / 256 ^ i % 256 : Nat) : Int) := by
  rw [byteOf_val, Int.natCast_emod, Int.natCast_ediv, Int.natCast_pow]
  rfl
theorem rec_burst {b c : List Int} (hb : isBytes b) (hc : isBytes c) (rb : recOk b) (rc : recOk c) (k m : Nat) (hm : m ≤ 4) (hk : k + m ≤ 64) (h : ∀ i, i < k ∨ k + m ≤ i → b[i]?.getD 0 = c[i]?.getD 0) : b = c := by
  have hlen : b.length = c.length := by rw [rb.len, rc.len]
  refine same_of_get hlen fun i => ?_
  have sb := sum_is rb
  have sc := sum_is rc
  rcases Nat.lt_or_ge 60 (k + m) with h1 | h1
  · rcases Nat.lt_or_ge k 60 with h2 | h2
    · have h0 := crcTo_same (bs := b) (cs := c) (k := k) (fun i hi => h i (.inl hi)) k (Nat.le_refl _)
      obtain ⟨E, hE, hx, hz⟩ := crc_in hb hc k h0 (60 - k)
      rw [show k + (60 - k) = 60 by omega] at hx
      obtain ⟨t, ht, ht2, ht3⟩ : ∃ t, t = k + m - 60 ∧ 0 < t ∧ t ≤ 3 := ⟨_, rfl, by omega, by omega⟩
      have lb : (4294967295 ^^^ crcTo b 60) < 4294967296 := Nat.xor_lt_two_pow (n := 32) (by decide) (crcTo_lt hb 60)
      have lc : (4294967295 ^^^ crcTo c 60) < 4294967296 := Nat.xor_lt_two_pow (n := 32) (by decide) (crcTo_lt hc 60)
      have hX : (4294967295 ^^^ crcTo b 60) ^^^ (4294967295 ^^^ crcTo c 60) = crcTo b 60 ^^^ crcTo c 60 := by
        rw [Nat.xor_comm 4294967295 (crcTo b 60), Nat.xor_assoc, ← Nat.xor_assoc 4294967295, Nat.xor_self, Nat.zero_xor]
      have hby : ∀ q, t ≤ q → q < 4 → (4294967295 ^^^ crcTo b 60) / 256 ^ q % 256 = (4294967295 ^^^ crcTo c 60) / 256 ^ q % 256 := fun q q1 q2 => by
        have e1 := byte_of_num hb 60 4 (by omega) (by rw [rb.len]; omega) q q2
        have e2 := byte_of_num hc 60 4 (by omega) (by rw [rc.len]; omega) q q2
        have e3 := h (60 + q) (.inr (by omega))
        change _ = byteOf (numTo b 60 4) q at e1
        change _ = byteOf (numTo c 60 4) q at e2
        rw [e1, e2, sb, sc, byteOf_nat, byteOf_nat] at e3
        exact Int.ofNat.inj e3
      have hlow : crcTo b 60 ^^^ crcTo c 60 < 2 ^ (8 * t) := by
        rw [← hX]
        apply xor_low
        generalize (4294967295 ^^^ crcTo b 60) = u at *
        generalize (4294967295 ^^^ crcTo c 60) = v at *
        rcases (by omega : t = 1 ∨ t = 2 ∨ t = 3) with rfl | rfl | rfl
        · have a1 := hby 1 (by omega) (by omega)
          have a2 := hby 2 (by omega) (by omega)
          have a3 := hby 3 (by omega) (by omega)
          simp only [Nat.reducePow, Nat.reduceMul] at a1 a2 a3 ⊢
          omega
        · have a2 := hby 2 (by omega) (by omega)
          have a3 := hby 3 (by omega) (by omega)
          simp only [Nat.reducePow, Nat.reduceMul] at a2 a3 ⊢
          omega
        · have a3 := hby 3 (by omega) (by omega)
          simp only [Nat.reducePow, Nat.reduceMul] at a3 ⊢
          omega
      generalize hXX : crcTo b 60 ^^^ crcTo c 60 = X at *
      have hzero : crcBits (E ^^^ X * 2 ^ (8 * (60 - k))) (8 * (60 - k)) = 0 := by rw [crcBits_xor, ← hx, crcBits_up, Nat.xor_self]
      have hp : 8 * t + 8 * (60 - k) ≤ 32 := by omega
      have l1 : E < 2 ^ 32 := Nat.lt_of_lt_of_le hE (Nat.pow_le_pow_right (by decide) (by omega))
      have l2 : X * 2 ^ (8 * (60 - k)) < 2 ^ 32 := by
        refine Nat.lt_of_lt_of_le (Nat.mul_lt_mul_of_pos_right hlow (Nat.two_pow_pos _)) ?_
        rw [← Nat.pow_add]
        exact Nat.pow_le_pow_right (by decide) hp
      have hEX := xor_zero_eq (crcBits_zero (Nat.xor_lt_two_pow l1 l2) _ hzero)
      have hX0 : X = 0 := by
        rcases Nat.eq_zero_or_pos X with h3 | h3
        · exact h3
        · have : 1 * 2 ^ (8 * (60 - k)) ≤ X * 2 ^ (8 * (60 - k)) := Nat.mul_le_mul_right _ h3
          omega
      have hE0 : E = 0 := by rw [hEX, hX0, Nat.zero_mul]
      rw [hX0] at hXX
      have hcrc := xor_zero_eq hXX
      rcases Nat.lt_or_ge i k with g1 | g1
      · exact h i (.inl g1)
      · rcases Nat.lt_or_ge i 60 with g2 | g2
        · have := hz hE0 (i - k) (by omega)
          rwa [show k + (i - k) = i by omega] at this
        · rcases Nat.lt_or_ge i 64 with g3 | g3
          · have := sum_bytes hb hc rb rc hcrc (i - 60) (by omega)
            rwa [show 60 + (i - 60) = i by omega] at this
          · exact h i (.inr (by omega))
    · have hcrc := crcTo_same (bs := b) (cs := c) (k := 60) (fun i hi => h i (.inl (by omega))) 60 (Nat.le_refl _)
      rcases Nat.lt_or_ge i 60 with g2 | g2
      · exact h i (.inl (by omega))
      · rcases Nat.lt_or_ge i 64 with g3 | g3
        · have := sum_bytes hb hc rb rc hcrc (i - 60) (by omega)
          rwa [show 60 + (i - 60) = i by omega] at this
        · exact h i (.inr (by omega))
  · have hnum : numTo b 60 4 = numTo c 60 4 := by
      have lb : (4294967295 ^^^ crcTo c 60) < 4294967296 := Nat.xor_lt_two_pow (n := 32) (by decide) (crcTo_lt hc 60)
      have := num_of_bytes hb 60 4 (by omega) (by rw [rb.len]; omega) (numTo c 60 4) (fun q hq => by
        rw [h (60 + q) (.inr (by omega))]
        exact byte_of_num hc 60 4 (by omega) (by rw [rc.len]; omega) q hq)
      change numTo b 60 4 = _ at this
      rw [this, sc]
      exact byte_mod (by omega) (by have : (256 : Int) ^ 4 = 4294967296 := rfl; omega)
    rw [sb, sc] at hnum
    exact crc_burst hb hc 60 k m hm h1 h (sum_ne (Int.ofNat.inj hnum)) i
theorem may_big (g : Int) (l : List S63) (hl : 4 < l.length) : PRootReads.carrelref03_may.f (l.length + 2) g l = some false := by
  unfold PRootReads.carrelref03_may.f
  rw [if_neg (by omega)]
  simp only [PRootReads.carrelref03_may.j0, decide_eq_true_eq]
  rw [if_pos (by omega)]
theorem rencode_refuses (g : Int) (A : Option Addr) (c : Nat) (l : List S63) (w : World) (h : SnapsAt w A l) (hc : l.length ≤ c) (hok : ¬ okRoot g l) :
    Calls Try.prog 31 #[.agg #[.int .u64 g, .slice A l.length c]] w fun e w' => e = .returned (.tuple #[.slice none 0 0, .int .i64 1]) ∧ Below w.heap.size w w' := by
  rcases Nat.lt_or_ge 4 l.length with hl | hl
  · have hA : Below w.heap.size w (w.alloc (.cells #[.int .u64 g, .slice A l.length c] 40)) := (Below.refl _ _).alloc (Nat.le_refl _) _
    have hF := PRootReads.carrelref03_may.calls _ g A c l _ _ (h.below hA) hc (may_big g l hl)
    go_enter Try.func31, Try.ntmps31
    go_wp2_with fail
    refine hF.mono ?_
    rintro e w1 ⟨rfl, hb1⟩
    have hbA : Below w.heap.size w w1 := hA.trans (hb1.mono hA.size)
    clear hA hb1 hF
    go_wp2_with fail
    go_ret2
    exact ⟨rfl, hbA⟩
  · exact rencode_no g A c l w h hc (by omega) hok
set_option maxRecDepth 100000 in
set_option maxHeartbeats 4000000 in
theorem bursts_walk (w : World) (g : Int) (A : Option Addr) (c : Nat) (l : List S63) (h : SnapsAt w A l) (hc : l.length ≤ c) (hw : rootWf g l) (at_ : Int) (ha0 : -9223372036854775808 ≤ at_) (ha1 : at_ ≤ 9223372036854775807)
    (A' : Option Addr) (lx cx : Nat) (xs : List Int) (hx : BytesAt w w.heap.size A' lx xs) (hlx : lx ≤ cx) (hcx : cx ≤ 140737488351232) :
    Calls Try.prog 13 #[.agg #[.int .u64 g, .slice A l.length c], .int .i64 at_, .slice A' lx cx] w fun e w' => e = .returned (.bool true) ∧ Below w.heap.size w w' := by
  have hb0 : Below w.heap.size w (w.alloc (.cells #[.int .u64 g, .slice A l.length c] 40)) := (Below.refl _ _).alloc (Nat.le_refl _) _
  have hr0 : (w.alloc (.cells #[.int .u64 g, .slice A l.length c] 40)).heap[w.heap.size]? = some (.cells #[.int .u64 g, .slice A l.length c] 40 (0, 0)) := heap_alloc_new _ _
  go_enter Try.func13, Try.ntmps13
  go_wp2_with fail
  refine (rootAwake_any _).mono ?_
  rintro e w1 ⟨rfl, hb1⟩
  have hr1 := blk_below hr0 hb1 (blk_lt hr0)
  have hbA := hb0.trans (hb1.mono hb0.size)
  have q0 : w1.cell? ⟨w.heap.size, 0, none⟩ = some (.int .u64 g) := cell_of_row _ _ 0 _ _ _ hr1
  have q1 : w1.cell? ⟨w.heap.size, 1, none⟩ = some (.slice A l.length c) := cell_of_row _ _ 1 _ _ _ hr1
  clear hb0 hr0 hb1 hr1
  by_cases hok : okRoot g l
  · obtain ⟨x1, x2, x3, x4⟩ := enc_rec hok hw
    have hbr := encR_range g l
    have hbl := encR_length g l
    go_wp2_with fail
    refine (rencode_yes g A c l w1 (h.below hbA) hc (by have := hok.2.1; omega) hok).mono ?_
    rintro e W2 ⟨⟨A2, c2, rfl, ho2⟩, hb2⟩
    have hbB := hbA.trans (hb2.mono hbA.size)
    have hcap := ho2.cap
    have hB2 := ho2.at_ hbr
    clear q0 q1 hb2 ho2
    generalize encR g l = bs at *
    have hw8 : wrap64 (64 - (lx : Int)) = 64 - (lx : Int) := wrap64_of (by omega) (by omega)
    have hs : 4 < lx ∨ lx ≤ 4 ∧ at_ < 0 ∨ lx ≤ 4 ∧ 0 ≤ at_ ∧ 64 - (lx : Int) < at_ ∨ lx ≤ 4 ∧ 0 ≤ at_ ∧ at_ + lx ≤ 64 := by omega
    rcases hs with s1 | ⟨s1, s2⟩ | ⟨s1, s2, s3⟩ | ⟨s1, s2, s3⟩
    · have d1 : decide ((4 : Int) < (lx : Int)) = true := decide_eq_true (by omega)
      have d2 : decide (4 < lx) = true := decide_eq_true s1
      go_wp2_with fail
      go_ret
      exact ⟨rfl, hbB⟩
    · have d1 : decide ((4 : Int) < (lx : Int)) = false := decide_eq_false (by omega)
      have d2 : decide (4 < lx) = false := decide_eq_false (by omega)
      have d3 : decide (at_ < 0) = true := decide_eq_true s2
      go_wp2_with fail
      go_ret
      exact ⟨rfl, hbB⟩
    · have d1 : decide ((4 : Int) < (lx : Int)) = false := decide_eq_false (by omega)
      have d2 : decide (4 < lx) = false := decide_eq_false (by omega)
      have d3 : decide (at_ < 0) = false := decide_eq_false (by omega)
      have d4 : decide (64 - (lx : Int) < at_) = true := decide_eq_true s3
      go_wp2_with fail
      go_ret
      exact ⟨rfl, hbB⟩
    · obtain ⟨k, rfl⟩ := Int.eq_ofNat_of_zero_le s2
      have d1 : decide ((4 : Int) < (lx : Int)) = false := decide_eq_false (by omega)
      have d2 : decide (4 < lx) = false := decide_eq_false (by omega)
      have d3 : decide ((k : Int) < 0) = false := decide_eq_false (by omega)
      have d4 : decide (64 - (lx : Int) < (k : Int)) = false := decide_eq_false (by omega)
      obtain rfl : xs.length = lx := hx.1
      have hfit : k + xs.length ≤ 64 := by omega
      have hkl : k ≤ 64 := by omega
      have hfit' : k + xs.length ≤ bs.length := by rw [hbl]; exact hfit
      have hsr := splice_range k hbr hx.2.1
      have hsl : (splice bs k xs).length = 64 := by rw [length_splice bs k xs hfit', hbl]
      by_cases hm : xs.length = 0
      · have hxs : splice bs k xs = bs := by
          obtain rfl : xs = [] := List.eq_nil_of_length_eq_zero hm
          simp [splice]
        go_wp2_with (first
          | (at_builtin; refine wpL_app rfl _ _ rfl W2.heap.size (.slice none 0 0) [] rfl (World.ownsRow_nil _ _ _ _) W2.heap.size A2 64 c2 bs rfl hB2 (by simp) (Nat.le_refl _) ?_; intro A3 c3 W4 hown hg hrow; rw [List.nil_append] at hown; simp only [List.length_nil, Nat.zero_add] at hown ⊢; rw [hbl] at hown; have hcp4 := hown.cap; have hb24 : Below W2.heap.size W2 W4 := ((Below.refl _ _).grown hg (Nat.le_refl _) (fun k e => by cases e)); clear hrow hg)
          | (refine wpList_copy_nothing rfl (.tmp 43) (.tmp 44) _ _ rfl 5 Try.underlying22 (by obtain ⟨i0, hi, hz0, hz1, hz2⟩ := info_parts infoU8; rw [hi]; simp [hz1]) _ _ _ _ _ _ rfl rfl (by first | exact Nat.zero_min _ | (rw [hm]; exact Nat.zero_min _)) ?_))
        case' inl =>
          have hk := h.symm
          subst hk
        all_goals
          have ho4 := hown
          rw [← hxs] at ho4
          have hbC := hbB.trans (hb24.mono hbB.size)
          refine (decode_is _ 64 _ (splice bs k xs) W4 (ho4.at_ hsr) hcp4 (by decide)).mono ?_
          rintro e W5 ⟨hb5, v5, rfl, A5, c5, rfl, ho5⟩
          have hbD := (hbC.trans (hb5.mono hbC.size)).alloc (Nat.le_trans hbC.size hb5.size) (.cells #[.int .u64 (decG (splice bs k xs)), .slice A5 (decL (splice bs k xs)).length c5] 40)
          have hb6 : Below W4.heap.size W4 (W5.alloc (.cells #[.int .u64 (decG (splice bs k xs)), .slice A5 (decL (splice bs k xs)).length c5] 40)) := hb5.alloc hb5.size _
          have hsame := fun A' c' (hh : BytesAt W4 W4.heap.size A' 64 (splice bs k xs)) => same_any A2 A' 64 64 c2 c' bs (splice bs k xs) W2.heap.size W4.heap.size _ (hB2.below (hb24.trans (hb6.mono hb24.size))) (hh.below hb6)
          have hsame := fun c' => hsame _ c' (ho4.at_ hsr)
          clear hb5 hb6 ho5 ho4 x2 x3
          by_cases heq : bs = splice bs k xs
          · rw [decide_eq_true heq] at hsame
            rw [← heq] at hsame hbD ⊢
            rw [x4]
            clear heq
            generalize decG bs = gg at *
            generalize decL bs = ll at *
            go_wp2_with fail
            refine (hsame _).mono ?_
            rintro e W7 ⟨rfl, rfl⟩
            go_wp2_with fail
            go_ret
            exact ⟨rfl, hbD⟩
          · have hno : ¬ recOk (splice bs k xs) := fun hr => heq (rec_burst hbr hsr x1 hr k xs.length s1 hfit (fun i hi => (splice_get hfit' hi).symm))
            rw [decide_eq_false heq] at hsame
            rw [decE_no hno]
            clear heq hno
            generalize decG (splice bs k xs) = gg at *
            generalize decL (splice bs k xs) = ll at *
            go_wp2_with fail
            refine (hsame _).mono ?_
            rintro e W7 ⟨rfl, rfl⟩
            go_wp2_with fail
            go_ret
            exact ⟨rfl, hbD⟩
      · go_wp2_with (first
          | (at_builtin; refine wpL_app rfl _ _ rfl W2.heap.size (.slice none 0 0) [] rfl (World.ownsRow_nil _ _ _ _) W2.heap.size A2 64 c2 bs rfl hB2 (by simp) (Nat.le_refl _) ?_; intro A3 c3 W3 hown hg hrow; rw [List.nil_append] at hown; simp only [List.length_nil, Nat.zero_add] at hown ⊢; rw [hbl] at hown; have hcp4 := hown.cap; have hck : ¬ c3 = k := (by omega); have hb23 : Below W2.heap.size W2 W3 := ((Below.refl _ _).grown hg (Nat.le_refl _) (fun k e => by cases e)); clear hrow hg)
          | (refine wpL_copyO rfl (.tmp 43) (.tmp 44) rfl W2.heap.size A3 64 c3 bs hown (A3.map (·.add k)) (64 - k) (c3 - k) k rfl (if_neg hck).symm A' xs.length cx rfl W2.heap.size xs ((hx.below hbB).more hbB.size |>.below hb23) (by omega) hfit (by omega) W2 hb23 ?_; intro W4 ho4 hb24))
        have hbC := hbB.trans (hb24.mono hbB.size)
        refine (decode_is _ 64 _ (splice bs k xs) W4 (ho4.at_ hsr) hcp4 (by decide)).mono ?_
        rintro e W5 ⟨hb5, v5, rfl, A5, c5, rfl, ho5⟩
        have hbD := (hbC.trans (hb5.mono hbC.size)).alloc (Nat.le_trans hbC.size hb5.size) (.cells #[.int .u64 (decG (splice bs k xs)), .slice A5 (decL (splice bs k xs)).length c5] 40)
        have hb6 : Below W4.heap.size W4 (W5.alloc (.cells #[.int .u64 (decG (splice bs k xs)), .slice A5 (decL (splice bs k xs)).length c5] 40)) := hb5.alloc hb5.size _
        have hsame := fun A' c' (hh : BytesAt W4 W4.heap.size A' 64 (splice bs k xs)) => same_any A2 A' 64 64 c2 c' bs (splice bs k xs) W2.heap.size W4.heap.size _ (hB2.below (hb24.trans (hb6.mono hb24.size))) (hh.below hb6)
        have hsame := fun c' => hsame _ c' (ho4.at_ hsr)
        clear hb5 hb6 ho5 ho4 x2 x3
        by_cases heq : bs = splice bs k xs
        · rw [decide_eq_true heq] at hsame
          rw [← heq] at hsame hbD ⊢
          rw [x4]
          clear heq
          generalize decG bs = gg at *
          generalize decL bs = ll at *
          go_wp2_with fail
          refine (hsame _).mono ?_
          rintro e W7 ⟨rfl, rfl⟩
          go_wp2_with fail
          go_ret
          exact ⟨rfl, hbD⟩
        · have hno : ¬ recOk (splice bs k xs) := fun hr => heq (rec_burst hbr hsr x1 hr k xs.length s1 hfit (fun i hi => (splice_get hfit' hi).symm))
          rw [decide_eq_false heq] at hsame
          rw [decE_no hno]
          clear heq hno
          generalize decG (splice bs k xs) = gg at *
          generalize decL (splice bs k xs) = ll at *
          go_wp2_with fail
          refine (hsame _).mono ?_
          rintro e W7 ⟨rfl, rfl⟩
          go_wp2_with fail
          go_ret
          exact ⟨rfl, hbD⟩
  · go_wp2_with fail
    refine (rencode_refuses g A c l w1 (h.below hbA) hc hok).mono ?_
    rintro e W2 ⟨rfl, hb2⟩
    have hbB := hbA.trans (hb2.mono hbA.size)
    clear q0 q1
    go_wp2_with fail
    go_ret
    exact ⟨rfl, hbB⟩
end Go.Proofs.Ytghpnhiliihlaaa.Root
namespace Go.Proofs.Ytghpnhiliihlaaa
open Go.RowKit
theorem rootBursts_walk (W : World) {H : Type} {enc : TypeId × Value → H} {base : Nat} {d : DataW H} {p : List MemPlace} (v : Value) (hok : Value.okWide Try.prog W .any base 40 v) (ht : DataW.Trod enc Try.prog W 0 (fun _ => true) true 40 v d p)
    (at_ : Int) (wa : (Lit.int .i64 at_).wf = true) (a' : Option Addr) (len' cap' : Nat) (bs' : List Int) (h' : BytesAt W W.heap.size a' len' bs') (hlc' : len' ≤ cap') (hc' : cap' ≤ 140737488351232) :
    Calls Try.prog 13 #[v, .int .i64 at_, .slice a' len' cap'] W fun e W' => e = .returned (.bool true) ∧ Below W.heap.size W W' := by
  obtain ⟨g, A, c, l, rfl, h, hc, hw⟩ := Root.root_open hok ht
  have ha := i64_wf wa
  exact Root.bursts_walk W g A c l h hc hw at_ ha.1 ha.2 a' len' cap' bs' h' hlc' hc'
end Go.Proofs.Ytghpnhiliihlaaa
