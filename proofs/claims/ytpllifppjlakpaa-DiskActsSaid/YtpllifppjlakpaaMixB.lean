import Derived.Test.YtpllifppjlakpaaMixA
namespace Go.Proofs.Ytpllifppjlakpaa
set_option linter.unusedVariables false
set_option linter.unusedSimpArgs false
open Go.RowKit

/-- The reference's text after i rounds. -/
def rmTo (a b : List Int) (k : Nat) (head : Bool) (i : Nat) : List Int := (mixOf a b k head).take i ++ nots (a.length - i)
theorem rmTo_zero (a b : List Int) (k : Nat) (head : Bool) : rmTo a b k head 0 = nots a.length := by simp [rmTo]
theorem rmTo_all {a b : List Int} {k : Nat} {head : Bool} (hk : k ≤ a.length) : rmTo a b k head a.length = mixOf a b k head := by
  simp only [rmTo, Nat.sub_self, nots, List.replicate_zero, List.append_nil]
  exact List.take_of_length_le (by rw [mixOf_length hk]; exact Nat.le_refl _)
theorem rmTo_length {a b : List Int} {k : Nat} {head : Bool} (hk : k ≤ a.length) {i : Nat} (hi : i ≤ a.length) : (rmTo a b k head i).length = a.length := by
  simp only [rmTo, List.length_append, List.length_take, mixOf_length hk, nots, List.length_replicate]; omega
theorem rmTo_succ {a b : List Int} {k : Nat} {head : Bool} (hk : k ≤ a.length) {i : Nat} (hi : i < a.length) : rmTo a b k head (i + 1) = (rmTo a b k head i).set i ((mixOf a b k head)[i]?.getD 0) := by
  have hl := mixOf_length (b := b) (head := head) hk
  have hlt : ((mixOf a b k head).take i).length = i := by rw [List.length_take, hl]; omega
  have hn : nots (a.length - i) = 0 :: nots (a.length - (i + 1)) := by
    rw [show a.length - i = (a.length - (i + 1)) + 1 by omega]; rfl
  have hil : i < (mixOf a b k head).length := by rw [hl]; exact hi
  rw [rmTo, rmTo, List.set_append, if_neg (by rw [hlt]; omega), hlt, Nat.sub_self, hn, List.set_cons_zero, List.take_add_one, List.append_assoc, List.getElem?_eq_getElem hil]
  rfl
theorem padTo_get {n i : Nat} {b : List Int} (hi : i < n) : (padTo n b)[i]?.getD 0 = b[i]?.getD 0 := by
  unfold padTo
  by_cases h : i < b.length
  · rw [List.getElem?_append_left (by rw [List.length_take]; omega), List.getElem?_take_of_lt hi]
  · rw [List.getElem?_append_right (by rw [List.length_take]; omega), List.getElem?_eq_none (by omega : b.length ≤ i), nots, List.getElem?_replicate]
    split <;> rfl
theorem mixOf_a {a b : List Int} {k : Nat} {head : Bool} (hk : k ≤ a.length) {i : Nat} (hi : i < a.length) (h : decide (i < k) = head) : (mixOf a b k head)[i]?.getD 0 = a[i]?.getD 0 := by
  subst h
  unfold mixOf
  by_cases hik : i < k
  · rw [if_pos (by simpa using hik), List.getElem?_append_left (by rw [List.length_take]; omega), List.getElem?_take_of_lt hik]
  · rw [if_neg (by simpa using hik), List.getElem?_append_right (by rw [List.length_take, padTo_length]; omega), List.length_take, padTo_length, List.getElem?_drop]
    congr 2; omega
theorem mixOf_b {a b : List Int} {k : Nat} {head : Bool} (hk : k ≤ a.length) {i : Nat} (hi : i < a.length) (h : decide (i < k) = !head) : (mixOf a b k head)[i]?.getD 0 = b[i]?.getD 0 := by
  have hh : head = !decide (i < k) := by rw [h, Bool.not_not]
  subst hh
  rw [← padTo_get (b := b) hi]
  unfold mixOf
  by_cases hik : i < k
  · rw [if_neg (by simpa using hik), List.getElem?_append_left (by rw [List.length_take, padTo_length]; omega), List.getElem?_take_of_lt hik]
  · rw [if_pos (by simpa using hik), List.getElem?_append_right (by rw [List.length_take]; omega), List.length_take, List.getElem?_drop]
    congr 2; omega
theorem rmTo_b0 {a b : List Int} {k : Nat} {head : Bool} (hk : k ≤ a.length) {i : Nat} (hi : i < a.length) (h : decide (i < k) = !head) (hb : b.length ≤ i) : rmTo a b k head (i + 1) = rmTo a b k head i := by
  rw [rmTo_succ hk hi, mixOf_b hk hi h, List.getElem?_eq_none hb]
  have hlt : ((mixOf a b k head).take i).length = i := by rw [List.length_take, mixOf_length hk]; omega
  have hn : nots (a.length - i) = 0 :: nots (a.length - (i + 1)) := by
    rw [show a.length - i = (a.length - (i + 1)) + 1 by omega]; rfl
  rw [rmTo, List.set_append, if_neg (by rw [hlt]; omega), hlt, Nat.sub_self, hn, List.set_cons_zero]
  rfl

set_option maxHeartbeats 1000000 in
theorem rmix_0 (A A' : Option Addr) (n n' c c' : Nat) (a b : List Int) (cut : Int) (head : Bool) (w : World) (ha : BytesAt w w.heap.size A n a) (hbB : BytesAt w w.heap.size A' n' b) (hnc : n ≤ c) (hc : c ≤ 9223372036854775807) (hn : n ≤ 140737488351232) (hn' : n' ≤ 140737488351232) (s0 : cut < 0) :
    Calls Try.prog 41 #[.slice A n c, .slice A' n' c', .int .i64 cut, .bool head] w fun e w' =>
      (∃ A2 c2, e = .returned (.slice A2 n c2) ∧ OwnBytes w' w.heap.size (.slice A2 n c2) (mixOf a b 0 head)) ∧ Below w.heap.size w w' := by
  have hmk := make_n n hn
  have hla := ha.1
  have hlb := hbB.1
  have hkl : 0 ≤ a.length := by omega
  go_enter Try.func41, Try.ntmps41
  go_wp2
  go_loopw [21] (fun v wr => ∃ i : Nat, i ≤ n ∧ v = .int .i64 i ∧ OwnBytes wr w.heap.size (.slice (some ⟨w.heap.size, 0, none⟩) n n) (rmTo a b 0 head i) ∧ Below w.heap.size w wr) (fun v _ => n - (intOf v).toNat)
  case atStart =>
    refine ⟨0, Nat.zero_le _, rfl, ?_, (Below.refl _ _).alloc (Nat.le_refl _) _⟩
    rw [rmTo_zero, ← hla]
    have hz : OwnBytes _ w.heap.size _ (nots a.length) := OwnBytes.of_blk (heap_alloc_new w (.cells (ints .u8 (nots a.length)) 5)) (Nat.le_refl _) (by simp [nots]; omega)
    rw [show (nots a.length).length = a.length by simp [nots]] at hz
    exact hz
  case round =>
    obtain ⟨i, hi, rfl, h0, hb⟩ := hrel
    by_cases hlt : i < n
    · have hin : i < a.length := by omega
      cases head
      · by_cases hik : i < 0
        · exact absurd hik (Nat.not_lt_zero i)
        · have hbytes := ha.below hb
          obtain ⟨b0, off, rfl, _, hcell⟩ := hbytes.2.2 (by omega)
          have hca := hcell i hlt
          clear hcell hbytes
          have Hy := Lib.hid (rmTo_succ (b := b) (head := false) hkl hin)
          rw [mixOf_a hkl hin (by simp <;> omega)] at Hy
          have h0' := Lib.hid (h0.set_ rfl i hlt (a[i]?.getD 0))
          obtain ⟨g, hA, hge, hci, hfi⟩ := h0.spot (i := i) hlt
          cases hA
          have H0 := Lib.hid h0
          clear h0
          generalize a[i]?.getD 0 = x at hca Hy h0' ⊢
          go_wp2
          go_roundw
          case rel => exact ⟨i + 1, by omega, by go_num, by rw [Hy.out]; exact h0'.out, hb.setCell (by simp) _⟩
          case measure => simp [intOf]; omega
      · by_cases hik : i < 0
        · exact absurd hik (Nat.not_lt_zero i)
        · by_cases hib : i < n'
          · have hbytes := hbB.below hb
            obtain ⟨b0, off, rfl, _, hcell⟩ := hbytes.2.2 (by omega)
            have hca := hcell i hib
            clear hcell hbytes
            have Hy := Lib.hid (rmTo_succ (b := b) (head := true) hkl hin)
            rw [mixOf_b hkl hin (by simp <;> omega)] at Hy
            have h0' := Lib.hid (h0.set_ rfl i hlt (b[i]?.getD 0))
            obtain ⟨g, hA, hge, hci, hfi⟩ := h0.spot (i := i) hlt
            cases hA
            have H0 := Lib.hid h0
            clear h0
            generalize b[i]?.getD 0 = x at hca Hy h0' ⊢
            go_wp2
            go_roundw
            case rel => exact ⟨i + 1, by omega, by go_num, by rw [Hy.out]; exact h0'.out, hb.setCell (by simp) _⟩
            case measure => simp [intOf]; omega
          · have Hy := Lib.hid (rmTo_b0 (b := b) (head := true) hkl hin (by simp <;> omega) (by omega))
            go_wp2
            go_roundw
            case rel => exact ⟨i + 1, by omega, by go_num, by rw [Hy.out]; exact h0, hb⟩
            case measure => simp [intOf]; omega
    · have hin : i = n := by omega
      subst hin
      have hall := rmTo_all (b := b) (head := head) hkl
      rw [hla] at hall
      rw [hall] at h0
      go_wp2
      go_ret
      exact ⟨⟨_, _, rfl, h0⟩, hb⟩
set_option maxHeartbeats 1000000 in
theorem rmix_1 (A A' : Option Addr) (n n' c c' : Nat) (a b : List Int) (cut : Nat) (head : Bool) (w : World) (ha : BytesAt w w.heap.size A n a) (hbB : BytesAt w w.heap.size A' n' b) (hnc : n ≤ c) (hc : c ≤ 9223372036854775807) (hn : n ≤ 140737488351232) (hn' : n' ≤ 140737488351232) (s1 : cut ≤ n) :
    Calls Try.prog 41 #[.slice A n c, .slice A' n' c', .int .i64 (cut : Int), .bool head] w fun e w' =>
      (∃ A2 c2, e = .returned (.slice A2 n c2) ∧ OwnBytes w' w.heap.size (.slice A2 n c2) (mixOf a b cut head)) ∧ Below w.heap.size w w' := by
  have hmk := make_n n hn
  have hla := ha.1
  have hlb := hbB.1
  have hkl : cut ≤ a.length := by omega
  go_enter Try.func41, Try.ntmps41
  go_wp2
  go_loopw [21] (fun v wr => ∃ i : Nat, i ≤ n ∧ v = .int .i64 i ∧ OwnBytes wr w.heap.size (.slice (some ⟨w.heap.size, 0, none⟩) n n) (rmTo a b cut head i) ∧ Below w.heap.size w wr) (fun v _ => n - (intOf v).toNat)
  case atStart =>
    refine ⟨0, Nat.zero_le _, rfl, ?_, (Below.refl _ _).alloc (Nat.le_refl _) _⟩
    rw [rmTo_zero, ← hla]
    have hz : OwnBytes _ w.heap.size _ (nots a.length) := OwnBytes.of_blk (heap_alloc_new w (.cells (ints .u8 (nots a.length)) 5)) (Nat.le_refl _) (by simp [nots]; omega)
    rw [show (nots a.length).length = a.length by simp [nots]] at hz
    exact hz
  case round =>
    obtain ⟨i, hi, rfl, h0, hb⟩ := hrel
    by_cases hlt : i < n
    · have hin : i < a.length := by omega
      cases head
      · by_cases hik : i < cut
        · by_cases hib : i < n'
          · have hbytes := hbB.below hb
            obtain ⟨b0, off, rfl, _, hcell⟩ := hbytes.2.2 (by omega)
            have hca := hcell i hib
            clear hcell hbytes
            have Hy := Lib.hid (rmTo_succ (b := b) (head := false) hkl hin)
            rw [mixOf_b hkl hin (by simp <;> omega)] at Hy
            have h0' := Lib.hid (h0.set_ rfl i hlt (b[i]?.getD 0))
            obtain ⟨g, hA, hge, hci, hfi⟩ := h0.spot (i := i) hlt
            cases hA
            have H0 := Lib.hid h0
            clear h0
            generalize b[i]?.getD 0 = x at hca Hy h0' ⊢
            go_wp2
            go_roundw
            case rel => exact ⟨i + 1, by omega, by go_num, by rw [Hy.out]; exact h0'.out, hb.setCell (by simp) _⟩
            case measure => simp [intOf]; omega
          · have Hy := Lib.hid (rmTo_b0 (b := b) (head := false) hkl hin (by simp <;> omega) (by omega))
            go_wp2
            go_roundw
            case rel => exact ⟨i + 1, by omega, by go_num, by rw [Hy.out]; exact h0, hb⟩
            case measure => simp [intOf]; omega
        · have hbytes := ha.below hb
          obtain ⟨b0, off, rfl, _, hcell⟩ := hbytes.2.2 (by omega)
          have hca := hcell i hlt
          clear hcell hbytes
          have Hy := Lib.hid (rmTo_succ (b := b) (head := false) hkl hin)
          rw [mixOf_a hkl hin (by simp <;> omega)] at Hy
          have h0' := Lib.hid (h0.set_ rfl i hlt (a[i]?.getD 0))
          obtain ⟨g, hA, hge, hci, hfi⟩ := h0.spot (i := i) hlt
          cases hA
          have H0 := Lib.hid h0
          clear h0
          generalize a[i]?.getD 0 = x at hca Hy h0' ⊢
          go_wp2
          go_roundw
          case rel => exact ⟨i + 1, by omega, by go_num, by rw [Hy.out]; exact h0'.out, hb.setCell (by simp) _⟩
          case measure => simp [intOf]; omega
      · by_cases hik : i < cut
        · have hbytes := ha.below hb
          obtain ⟨b0, off, rfl, _, hcell⟩ := hbytes.2.2 (by omega)
          have hca := hcell i hlt
          clear hcell hbytes
          have Hy := Lib.hid (rmTo_succ (b := b) (head := true) hkl hin)
          rw [mixOf_a hkl hin (by simp <;> omega)] at Hy
          have h0' := Lib.hid (h0.set_ rfl i hlt (a[i]?.getD 0))
          obtain ⟨g, hA, hge, hci, hfi⟩ := h0.spot (i := i) hlt
          cases hA
          have H0 := Lib.hid h0
          clear h0
          generalize a[i]?.getD 0 = x at hca Hy h0' ⊢
          go_wp2
          go_roundw
          case rel => exact ⟨i + 1, by omega, by go_num, by rw [Hy.out]; exact h0'.out, hb.setCell (by simp) _⟩
          case measure => simp [intOf]; omega
        · by_cases hib : i < n'
          · have hbytes := hbB.below hb
            obtain ⟨b0, off, rfl, _, hcell⟩ := hbytes.2.2 (by omega)
            have hca := hcell i hib
            clear hcell hbytes
            have Hy := Lib.hid (rmTo_succ (b := b) (head := true) hkl hin)
            rw [mixOf_b hkl hin (by simp <;> omega)] at Hy
            have h0' := Lib.hid (h0.set_ rfl i hlt (b[i]?.getD 0))
            obtain ⟨g, hA, hge, hci, hfi⟩ := h0.spot (i := i) hlt
            cases hA
            have H0 := Lib.hid h0
            clear h0
            generalize b[i]?.getD 0 = x at hca Hy h0' ⊢
            go_wp2
            go_roundw
            case rel => exact ⟨i + 1, by omega, by go_num, by rw [Hy.out]; exact h0'.out, hb.setCell (by simp) _⟩
            case measure => simp [intOf]; omega
          · have Hy := Lib.hid (rmTo_b0 (b := b) (head := true) hkl hin (by simp <;> omega) (by omega))
            go_wp2
            go_roundw
            case rel => exact ⟨i + 1, by omega, by go_num, by rw [Hy.out]; exact h0, hb⟩
            case measure => simp [intOf]; omega
    · have hin : i = n := by omega
      subst hin
      have hall := rmTo_all (b := b) (head := head) hkl
      rw [hla] at hall
      rw [hall] at h0
      go_wp2
      go_ret
      exact ⟨⟨_, _, rfl, h0⟩, hb⟩
set_option maxHeartbeats 1000000 in
theorem rmix_2 (A A' : Option Addr) (n n' c c' : Nat) (a b : List Int) (cut : Int) (head : Bool) (w : World) (ha : BytesAt w w.heap.size A n a) (hbB : BytesAt w w.heap.size A' n' b) (hnc : n ≤ c) (hc : c ≤ 9223372036854775807) (hn : n ≤ 140737488351232) (hn' : n' ≤ 140737488351232) (s0 : n < cut) :
    Calls Try.prog 41 #[.slice A n c, .slice A' n' c', .int .i64 cut, .bool head] w fun e w' =>
      (∃ A2 c2, e = .returned (.slice A2 n c2) ∧ OwnBytes w' w.heap.size (.slice A2 n c2) (mixOf a b n head)) ∧ Below w.heap.size w w' := by
  have hmk := make_n n hn
  have hla := ha.1
  have hlb := hbB.1
  have hkl : n ≤ a.length := by omega
  go_enter Try.func41, Try.ntmps41
  go_wp2
  go_loopw [21] (fun v wr => ∃ i : Nat, i ≤ n ∧ v = .int .i64 i ∧ OwnBytes wr w.heap.size (.slice (some ⟨w.heap.size, 0, none⟩) n n) (rmTo a b n head i) ∧ Below w.heap.size w wr) (fun v _ => n - (intOf v).toNat)
  case atStart =>
    refine ⟨0, Nat.zero_le _, rfl, ?_, (Below.refl _ _).alloc (Nat.le_refl _) _⟩
    rw [rmTo_zero, ← hla]
    have hz : OwnBytes _ w.heap.size _ (nots a.length) := OwnBytes.of_blk (heap_alloc_new w (.cells (ints .u8 (nots a.length)) 5)) (Nat.le_refl _) (by simp [nots]; omega)
    rw [show (nots a.length).length = a.length by simp [nots]] at hz
    exact hz
  case round =>
    obtain ⟨i, hi, rfl, h0, hb⟩ := hrel
    by_cases hlt : i < n
    · have hin : i < a.length := by omega
      cases head
      · by_cases hik : i < n
        · by_cases hib : i < n'
          · have hbytes := hbB.below hb
            obtain ⟨b0, off, rfl, _, hcell⟩ := hbytes.2.2 (by omega)
            have hca := hcell i hib
            clear hcell hbytes
            have Hy := Lib.hid (rmTo_succ (b := b) (head := false) hkl hin)
            rw [mixOf_b hkl hin (by simp <;> omega)] at Hy
            have h0' := Lib.hid (h0.set_ rfl i hlt (b[i]?.getD 0))
            obtain ⟨g, hA, hge, hci, hfi⟩ := h0.spot (i := i) hlt
            cases hA
            have H0 := Lib.hid h0
            clear h0
            generalize b[i]?.getD 0 = x at hca Hy h0' ⊢
            go_wp2
            go_roundw
            case rel => exact ⟨i + 1, by omega, by go_num, by rw [Hy.out]; exact h0'.out, hb.setCell (by simp) _⟩
            case measure => simp [intOf]; omega
          · have Hy := Lib.hid (rmTo_b0 (b := b) (head := false) hkl hin (by simp <;> omega) (by omega))
            go_wp2
            go_roundw
            case rel => exact ⟨i + 1, by omega, by go_num, by rw [Hy.out]; exact h0, hb⟩
            case measure => simp [intOf]; omega
        · exact absurd hlt hik
      · by_cases hik : i < n
        · have hbytes := ha.below hb
          obtain ⟨b0, off, rfl, _, hcell⟩ := hbytes.2.2 (by omega)
          have hca := hcell i hlt
          clear hcell hbytes
          have Hy := Lib.hid (rmTo_succ (b := b) (head := true) hkl hin)
          rw [mixOf_a hkl hin (by simp <;> omega)] at Hy
          have h0' := Lib.hid (h0.set_ rfl i hlt (a[i]?.getD 0))
          obtain ⟨g, hA, hge, hci, hfi⟩ := h0.spot (i := i) hlt
          cases hA
          have H0 := Lib.hid h0
          clear h0
          generalize a[i]?.getD 0 = x at hca Hy h0' ⊢
          go_wp2
          go_roundw
          case rel => exact ⟨i + 1, by omega, by go_num, by rw [Hy.out]; exact h0'.out, hb.setCell (by simp) _⟩
          case measure => simp [intOf]; omega
        · exact absurd hlt hik
    · have hin : i = n := by omega
      subst hin
      have hall := rmTo_all (b := b) (head := head) hkl
      rw [hla] at hall
      rw [hall] at h0
      go_wp2
      go_ret
      exact ⟨⟨_, _, rfl, h0⟩, hb⟩
theorem rmix_any (A A' : Option Addr) (n n' c c' : Nat) (a b : List Int) (cut : Int) (head : Bool) (w : World) (ha : BytesAt w w.heap.size A n a) (hb : BytesAt w w.heap.size A' n' b) (hnc : n ≤ c) (hc : c ≤ 9223372036854775807) (hn : n ≤ 140737488351232) (hn' : n' ≤ 140737488351232) :
    Calls Try.prog 41 #[.slice A n c, .slice A' n' c', .int .i64 cut, .bool head] w fun e w' =>
      (∃ A2 c2, e = .returned (.slice A2 n c2) ∧ OwnBytes w' w.heap.size (.slice A2 n c2) (mixOf a b (cutOf cut n) head)) ∧ Below w.heap.size w w' := by
  have hs : cut < 0 ∨ 0 ≤ cut ∧ cut ≤ n ∨ n < cut := by omega
  rcases hs with s0 | ⟨s0, s1⟩ | s0
  · rw [show cutOf cut n = 0 by unfold cutOf; omega]
    exact rmix_0 A A' n n' c c' a b cut head w ha hb hnc hc hn hn' s0
  · obtain ⟨k, rfl⟩ := Int.eq_ofNat_of_zero_le s0
    rw [show cutOf (k : Int) n = k by unfold cutOf; omega]
    exact rmix_1 A A' n n' c c' a b k head w ha hb hnc hc hn hn' (by omega)
  · rw [show cutOf cut n = n by unfold cutOf; omega]
    exact rmix_2 A A' n n' c c' a b cut head w ha hb hnc hc hn hn' s0

end Go.Proofs.Ytpllifppjlakpaa
