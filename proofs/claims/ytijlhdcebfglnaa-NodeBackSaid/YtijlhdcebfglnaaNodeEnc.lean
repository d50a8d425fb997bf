/-
  node.Encode and its reference: what they compute, for every node.
-/
import Derived.Test.YtijlhdcebfglnaaLe
import Derived.Test.YtijlhdcebfglnaaWith
namespace Go.Proofs.Ytijlhdcebfglnaa
open Go.RowKit

/-- What one entry is written as; what the first k entries are. -/
def enc2 (x : Int) : List Int := [byteOf x 0, byteOf x 1]
def encTo (xs : List Int) : Nat → List Int
  | 0 => []
  | k + 1 => encTo xs k ++ enc2 (xs[k]?.getD 0)
theorem encTo_length (xs : List Int) : ∀ k, (encTo xs k).length = 2 * k
  | 0 => rfl
  | k + 1 => by rw [encTo, List.length_append, encTo_length xs k]; simp [enc2]; omega
theorem encTo_range (xs : List Int) : ∀ k, ∀ x ∈ encTo xs k, 0 ≤ x ∧ x < 256
  | 0 => by simp [encTo]
  | k + 1 => by
    intro x hx
    rw [encTo, List.mem_append] at hx
    rcases hx with h | h
    · exact encTo_range xs k x h
    · simp only [enc2, List.mem_cons, List.not_mem_nil, or_false] at h
      rcases h with rfl | rfl <;> exact byteOf_range _ _
theorem put2 (x : Int) : putTo [0, 0] 0 x (rounds8 2) = enc2 x := by
  have : rounds8 2 = 2 := by decide
  rw [this]
  simp [putTo, enc2]
/-- m: the first entry that does not fit; 32: they all fit. -/
def Fits (xs : List Int) (m : Nat) : Prop := m ≤ 32 ∧ (∀ j, j < m → 0 ≤ xs[j]?.getD 0 ∧ xs[j]?.getD 0 ≤ 65535) ∧ (m < 32 → xs[m]?.getD 0 < 0 ∨ 65535 < xs[m]?.getD 0)
theorem fits_some (xs : List Int) : ∃ m, Fits xs m := by
  have key : ∀ d k, d + k = 32 → (∀ j, j < k → 0 ≤ xs[j]?.getD 0 ∧ xs[j]?.getD 0 ≤ 65535) → ∃ m, Fits xs m := by
    intro d
    induction d with
    | zero => intro k hk h; exact ⟨k, by omega, h, by omega⟩
    | succ d ih =>
      intro k hk h
      by_cases hb : xs[k]?.getD 0 < 0 ∨ 65535 < xs[k]?.getD 0
      · exact ⟨k, by omega, h, fun _ => hb⟩
      · exact ih (k + 1) (by omega) (fun j hj => by
          by_cases e : j = k
          · subst e; omega
          · exact h j (by omega))
  exact key 32 0 (by omega) (by omega)
def EncPost (w : World) (xs : List Int) (m : Nat) (bs : List Int) (e : Ending) (w' : World) : Prop :=
  ((m = 32 ∧ ∃ A c, e = .returned (.tuple #[.slice A 64 c, .int .i64 0]) ∧ OwnBytes w' w.heap.size (.slice A 64 c) bs) ∨ (m < 32 ∧ e = .returned (.tuple #[.slice none 0 0, .int .i64 1]))) ∧ Below w.heap.size w w'
def noughts (n : Nat) : List Int := List.replicate n 0
theorem make0_64 (w : World) : (Instr.makeSlice 42 (.int .i64 0) (.int .i64 64)).run Try.prog w = .ok (.slice (some ⟨w.heap.size, 0, none⟩) 0 64) (w.alloc (.cells (ints .u8 (noughts 64)) 5)) := by kernel_rfl
theorem make64_64 (w : World) : (Instr.makeSlice 42 (.int .i64 64) (.int .i64 64)).run Try.prog w = .ok (.slice (some ⟨w.heap.size, 0, none⟩) 64 64) (w.alloc (.cells (ints .u8 (noughts 64)) 5)) := by kernel_rfl
theorem make2_2 (w : World) : (Instr.makeSlice 42 (.int .i64 2) (.int .i64 2)).run Try.prog w = .ok (.slice (some ⟨w.heap.size, 0, none⟩) 2 2) (w.alloc (.cells (ints .u8 [0, 0]) 5)) := by kernel_rfl

set_option maxHeartbeats 1000000 in
theorem encode_any (xs : List Int) (hs : xs.length = 32) (m : Nat) (hm : Fits xs m) (w : World) :
    Calls Try.prog 15 #[.agg (ints .i64 xs)] w (EncPost w xs m (encTo xs 32)) := by
  have hmk := make0_64
  have hmk2 := make2_2
  go_enter Try.func15, Try.ntmps15
  go_wp2_with (refine wpL_load rfl 34 (.tmp 1) rfl _ rfl 34 (ints .i64 xs) (0, 0) _ (heap_alloc2_old _ _ _) Try.underlying34 rfl (size34_of hs) ?_)
  have hown := OwnBytes.made (w.alloc (.cells (ints .i64 xs) 34)) w.heap.size 64 (ints .u8 (noughts 64)) (by rw [ints_size]; rfl) (by simp) (by omega)
  rw [World.size_alloc] at hown
  have hb0 : Below w.heap.size w ((w.alloc (.cells (ints .i64 xs) 34)).alloc (.cells (ints .u8 (noughts 64)) 5)) := ((Below.refl _ _).alloc (Nat.le_refl _) _).alloc (by simp) _
  obtain ⟨hm32, hfit, hbad⟩ := hm
  have Hfit := Lib.hid hfit
  have Hbad := Lib.hid hbad
  clear hfit hbad
  go_loopw [4, 9] (fun v i wr => ∃ (k : Nat) (A : Option Addr) (c : Nat), k ≤ m ∧ i = .int .i64 k ∧ v = .slice A (2 * k) c ∧ OwnBytes wr w.heap.size (.slice A (2 * k) c) (encTo xs k) ∧ Below w.heap.size w wr)
    (fun _ i _ => 32 - (intOf i).toNat)
  case atStart => exact ⟨0, _, _, Nat.zero_le _, rfl, rfl, hown, hb0⟩
  case round =>
    obtain ⟨k, A, c, hk, rfl, rfl, ho, hb⟩ := hrel
    by_cases hlt : k < 32
    · have hidx : ∀ w, (Instr.index 34 (.agg (ints .i64 xs)) (.int .i64 k)).run Try.prog w = .ok (.int .i64 (xs[k]?.getD 0)) w := fun w => by
        rw [run_index_ints w xs k Try.underlying34 Try.underlying3 size3 hs hlt, List.getD_eq_getElem?_getD]
      have Henc := Lib.hid (show encTo xs (k + 1) = encTo xs k ++ enc2 (xs[k]?.getD 0) from rfl)
      generalize hx : xs[k]?.getD 0 = x at *
      have Hx := Lib.hid hx
      clear hx
      by_cases c1 : x < 0
      · have hm' : m < 32 := by
          rcases Nat.lt_or_ge k m with h | h
          · have := Hfit.out k h; rw [Hx.out] at this; omega
          · omega
        go_wp2
        go_ret2
        exact ⟨.inr ⟨hm', rfl⟩, hb⟩
      · by_cases c2 : 65535 < x
        · have hm' : m < 32 := by
            rcases Nat.lt_or_ge k m with h | h
            · have := Hfit.out k h; rw [Hx.out] at this; omega
            · omega
          go_wp2
          go_ret2
          exact ⟨.inr ⟨hm', rfl⟩, hb⟩
        · have hkm : k < m := by
            rcases Nat.lt_or_ge k m with h | h
            · exact h
            · have hkm : k = m := by omega
              subst hkm
              have := Hbad.out hlt
              rw [Hx.out] at this; omega
          have hb2 := OwnBytes.lit wr wr.heap.size [0, 0] (Nat.le_refl _) (by simp)
          go_wp2_with fail
          refine (putNum_any _ 2 2 [0, 0] 0 2 x (by omega) (by omega) (by omega) _ (hb2.at_ (by simp))).mono ?_
          rintro e w1 ⟨⟨A1, c1', rfl, hp⟩, hb1⟩
          rw [put2] at hp
          rw [World.size_alloc] at hp hb1
          have ho1 := ho.below (w' := w1) ((((Below.refl wr.heap.size wr).alloc (Nat.le_refl _) _)).trans (hb1.mono (by omega))) (Nat.le_refl _)
          have hbb : Below w.heap.size w w1 := (hb.alloc hb.size _).trans (hb1.mono (by have := hb.size; omega))
          have hlen := encTo_length xs k
          go_wp2_with (at_builtin; refine wpL_app rfl _ _ rfl w.heap.size (.slice A (2 * k) c) (encTo xs k) rfl ho1 w1.heap.size A1 2 c1' (enc2 x) rfl (hp.at_ (fun z hz => encTo_range xs (k + 1) z (by rw [Henc.out]; simp [hz]))) (by omega) (by exact hbb.size) ?_; intro A2 c2' w2 hown2 hg2 hrow2; have hb2 := ho1.frame hbb hg2 hbb.size (Nat.le_refl _); rw [← Henc.out, encTo_length] at hown2 ⊢)
          go_roundw
          case rel => exact ⟨k + 1, A2, c2', by omega, by go_num, rfl, hown2, hb2⟩
          case measure => simp [intOf]; omega
    · have hm' : m = 32 := by omega
      have hk' : k = 32 := by omega
      subst hk'
      have Hm := Lib.hid hm'
      clear hm'
      go_wp2
      go_ret2
      exact ⟨.inl ⟨Hm.out, _, _, rfl, ho⟩, hb⟩

def rEnc (xs : List Int) : Nat → List Int
  | 0 => noughts 64
  | k + 1 => putTo (rEnc xs k) (2 * (k : Int)) (xs[k]?.getD 0) (rounds8 2)
theorem rounds8_2 : rounds8 2 = 2 := by decide
theorem noughts_succ2 (n : Nat) (h : 2 ≤ n) : noughts n = 0 :: 0 :: noughts (n - 2) := by
  obtain ⟨m, rfl⟩ : ∃ m, n = m + 2 := ⟨n - 2, by omega⟩
  simp [noughts, List.replicate_succ]
theorem putTo2 (bs : List Int) (a : Nat) (z : Int) (h : a + 1 < bs.length) : putTo bs (a : Int) z 2 = (bs.set a (byteOf z 0)).set (a + 1) (byteOf z 1) := by
  rw [putTo_yes (m := 1) (i := a + 1) (by omega) h, putTo_yes (m := 0) (i := a) (by omega) (by omega)]
  rfl
theorem rEnc_eq (xs : List Int) : ∀ k, k ≤ 32 → rEnc xs k = encTo xs k ++ noughts (64 - 2 * k)
  | 0, _ => by simp [rEnc, encTo]
  | k + 1, h => by
    have ih := rEnc_eq xs k (by omega)
    have hl := encTo_length xs k
    have hn : noughts (64 - 2 * k) = 0 :: 0 :: noughts (64 - 2 * (k + 1)) := by
      rw [noughts_succ2 _ (by omega), show 64 - 2 * k - 2 = 64 - 2 * (k + 1) by omega]
    have hlen : (encTo xs k ++ noughts (64 - 2 * k)).length = 64 := by rw [List.length_append, hl]; simp [noughts]; omega
    have hp := putTo2 (encTo xs k ++ noughts (64 - 2 * k)) (2 * k) (xs[k]?.getD 0) (by omega)
    rw [show ((2 * k : Nat) : Int) = 2 * (k : Int) by omega] at hp
    rw [rEnc, ih, rounds8_2, hp, hn, List.set_append_right _ _ (by omega), List.set_append_right _ _ (by omega), hl]
    rw [show 2 * k - 2 * k = 0 by omega, show 2 * k + 1 - 2 * k = 1 by omega]
    simp [encTo, enc2]
theorem rEnc_length (xs : List Int) (k : Nat) (h : k ≤ 32) : (rEnc xs k).length = 64 := by
  rw [rEnc_eq xs k h, List.length_append, encTo_length]; simp [noughts]; omega
theorem rEnc_range (xs : List Int) (k : Nat) (h : k ≤ 32) : ∀ x ∈ rEnc xs k, 0 ≤ x ∧ x < 256 := by
  rw [rEnc_eq xs k h]
  intro x hx
  rw [List.mem_append] at hx
  rcases hx with h1 | h1
  · exact encTo_range xs k x h1
  · have := List.eq_of_mem_replicate h1; omega

set_option maxHeartbeats 1000000 in
theorem rencode_any (xs : List Int) (hs : xs.length = 32) (m : Nat) (hm : Fits xs m) (w : World) :
    Calls Try.prog 16 #[.agg (ints .i64 xs)] w (EncPost w xs m (rEnc xs 32)) := by
  have hmk := make64_64
  go_enter Try.func16, Try.ntmps16
  go_wp2
  have hown : OwnBytes ((w.alloc (.cells (ints .i64 xs) 34)).alloc (.cells (ints .u8 (noughts 64)) 5)) w.heap.size (.slice (some ⟨w.heap.size + 1, 0, none⟩) 64 64) (noughts 64) := by
    have := OwnBytes.lit (w.alloc (.cells (ints .i64 xs) 34)) w.heap.size (noughts 64) (by simp) (by simp [noughts])
    rw [World.size_alloc] at this
    exact this
  have hb0 : Below w.heap.size w ((w.alloc (.cells (ints .i64 xs) 34)).alloc (.cells (ints .u8 (noughts 64)) 5)) := ((Below.refl _ _).alloc (Nat.le_refl _) _).alloc (by simp) _
  obtain ⟨hm32, hfit, hbad⟩ := hm
  have Hfit := Lib.hid hfit
  have Hbad := Lib.hid hbad
  clear hfit hbad
  go_loopw [4, 5] (fun v i wr => ∃ (k : Nat) (A : Option Addr) (c : Nat), k ≤ m ∧ i = .int .i64 k ∧ v = .slice A 64 c ∧ OwnBytes wr w.heap.size (.slice A 64 c) (rEnc xs k) ∧ Below w.heap.size w wr ∧ Hid (wr.heap[w.heap.size]? = some (.cells (ints .i64 xs) 34 (0, 0))))
    (fun _ i _ => 32 - (intOf i).toNat)
  case atStart => exact ⟨0, _, _, Nat.zero_le _, rfl, rfl, hown, hb0, heap_alloc2_old _ _ _⟩
  case round =>
    obtain ⟨k, A, c, hk, rfl, rfl, ho, hb, hbox⟩ := hrel
    by_cases hlt : k < 32
    · have hcx := cell_blk hbox.out k (by omega)
      rw [List.getD_eq_getElem?_getD] at hcx
      have Henc := Lib.hid (show rEnc xs (k + 1) = putTo (rEnc xs k) (2 * (k : Int)) (xs[k]?.getD 0) (rounds8 2) from rfl)
      generalize hx : xs[k]?.getD 0 = x at *
      have Hx := Lib.hid hx
      clear hx
      by_cases c1 : x < 0
      · have hm' : m < 32 := by
          rcases Nat.lt_or_ge k m with h | h
          · have := Hfit.out k h; rw [Hx.out] at this; omega
          · omega
        go_wp2
        go_ret2
        exact ⟨.inr ⟨hm', rfl⟩, hb⟩
      · by_cases c2 : 65535 < x
        · have hm' : m < 32 := by
            rcases Nat.lt_or_ge k m with h | h
            · have := Hfit.out k h; rw [Hx.out] at this; omega
            · omega
          go_wp2
          go_ret2
          exact ⟨.inr ⟨hm', rfl⟩, hb⟩
        · have hkm : k < m := by
            rcases Nat.lt_or_ge k m with h | h
            · exact h
            · have hkm : k = m := by omega
              subst hkm
              have := Hbad.out hlt
              rw [Hx.out] at this; omega
          have hlen := rEnc_length xs k (by omega)
          have Hlen := Lib.hid hlen
          clear hlen
          go_wp2_with fail
          refine (rputNum_any A 64 c (rEnc xs k) (2 * (k : Int)) 2 x (by omega) (by omega) (by omega) _ (ho.at_ (rEnc_range xs k (by omega)))).mono ?_
          rintro e w1 ⟨⟨A1, c1', rfl, hp⟩, hb1⟩
          rw [← Henc.out] at hp
          have hp1 := hp.base_le hb.size
          have hbox1 : Hid (w1.heap[w.heap.size]? = some (.cells (ints .i64 xs) 34 (0, 0))) := blk_below hbox.out hb1 (blk_lt hbox.out)
          have hbb : Below w.heap.size w w1 := hb.trans (hb1.mono hb.size)
          go_wp2_with fail
          go_roundw
          case rel => exact ⟨k + 1, A1, c1', by omega, by go_num, rfl, hp1, hbb, hbox1⟩
          case measure => simp [intOf]; omega
    · have hm' : m = 32 := by omega
      have hk' : k = 32 := by omega
      subst hk'
      have Hm := Lib.hid hm'
      clear hm'
      go_wp2
      go_ret2
      exact ⟨.inl ⟨Hm.out, _, _, rfl, ho⟩, hb⟩
end Go.Proofs.Ytijlhdcebfglnaa
