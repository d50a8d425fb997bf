/-
  SourceParses, plain.
-/
import Derived.Test.YtkdmjkknkefemaaSrc
import Derived.Test.YtkdmjkknkefemaaPSourceParsesx2
namespace Go.Proofs.Ytkdmjkknkefemaa.Pure
open Go.RowKit Go.Proofs.Ytkdmjkknkefemaa Go.Proofs.Ytkdmjkknkefemaa.PSourceParses Go.Proofs.YtkdmjkknkefemaaW.PrintWords Go.Proofs.YtkdmjkknkefemaaW.PrintLast Go.Proofs.YtkdmjkknkefemaaW.PrintMore

theorem parse_l0 (s : ByteArray) (z : Int) (f : Nat) (hs : s.size ≤ 140737488351232) (hf : f ≤ s.size) : ∀ (n i k : Nat), s.size - (f + i) = n → f + i ≤ s.size → n < k →
    source_Parse.l0 k s z (f : Int) ((s.size - f : Nat) : Int) (i : Int) = some (parseRes s f (findN s z (f + i)))
  | n, i, 0, _, _, h => by omega
  | n, i, k + 1, hn, hi, hk => by
    rw [source_Parse.l0]
    by_cases hlt : f + i < s.size
    · have e : wrap64 ((f : Int) + (i : Int)) = ((f + i : Nat) : Int) := by rw [wrap64_of] <;> omega
      rw [if_pos (by omega), e, if_pos (by omega), if_pos (by omega)]
      by_cases hb : bt s ((f + i : Nat) : Int) = z
      · rw [if_pos hb, if_pos (by omega), if_pos (by omega), if_pos (by omega), findN_stop hb, parseRes, if_pos hlt, Int.toNat_natCast, Int.toNat_natCast, wrap64_of (by omega) (by omega)]
        rfl
      · rw [if_neg hb, findN_go hlt hb, wrap64_of (by omega) (by omega)]
        exact parse_l0 s z f hs hf (n - 1) (i + 1) k (by omega) (by omega) (by omega)
    · rw [if_neg (by omega), if_pos (by omega), if_pos (by omega), findN_end (by omega), parseRes, if_neg (by omega), Int.toNat_natCast]
theorem parse_f (s : ByteArray) (a z : Int) (hs : s.size ≤ 140737488351232) (k : Nat) (hk : s.size < k) : source_Parse.f k s a z = some (parseRes s (placeOf s a) (findN s z (placeOf s a))) := by
  have hp := placeOf_le s a
  rw [source_Parse.f, place_eq, wrap64_of (by omega) (by omega), show (s.size : Int) - (placeOf s a : Int) = ((s.size - placeOf s a : Nat) : Int) by omega]
  exact parse_l0 s z _ hs hp _ 0 k rfl (by omega) (by omega)
theorem rparse_l0 (s : ByteArray) (z : Int) (f : Nat) (hs : s.size ≤ 140737488351232) (hf : f ≤ s.size) : ∀ (n i k : Nat), s.size - i = n → i ≤ s.size → f ≤ i → n < k →
    carrelref20_Parse.l0 k s z (f : Int) (i : Int) = some (parseRes s f (findN s z i))
  | n, i, 0, _, _, _, h => by omega
  | n, i, k + 1, hn, hi, hfi, hk => by
    rw [carrelref20_Parse.l0]
    by_cases hlt : i < s.size
    · rw [if_pos (by omega), if_pos (by omega)]
      by_cases hb : bt s (i : Int) = z
      · rw [if_pos hb, if_pos (by omega), if_pos (by omega), if_pos (by omega), findN_stop hb, parseRes, if_pos hlt, Int.toNat_natCast, Int.toNat_natCast, wrap64_of (by omega) (by omega)]
        rfl
      · rw [if_neg hb, findN_go hlt hb, wrap64_of (by omega) (by omega)]
        exact rparse_l0 s z f hs hf (n - 1) (i + 1) k (by omega) (by omega) (by omega) (by omega)
    · rw [if_neg (by omega), if_pos (by omega), if_pos (by omega), findN_end (by omega), parseRes, if_neg (by omega), Int.toNat_natCast]
theorem rparse_f (s : ByteArray) (a z : Int) (hs : s.size ≤ 140737488351232) (k : Nat) (hk : s.size < k) : carrelref20_Parse.f k s a z = some (parseRes s (placeOf s a) (findN s z (placeOf s a))) := by
  have hp := placeOf_le s a
  rw [carrelref20_Parse.f, carrelref20_place.f, place_eq, Option.bind_some]
  exact rparse_l0 s z _ hs hp _ _ k rfl hp (Nat.le_refl _) (by omega)
theorem awake_f : ∀ n, carrellaw20_awake.f (10 + n) = some true
  | 0 => by decide +kernel
  | n + 1 => carrellaw20_awake.mono _ _ (awake_f n)
theorem SourceParses : carrellaw20_SourceParses.Pure := by
  intro s a z hs _ _
  refine ⟨10 + (s.size + 1), ?_⟩
  rw [carrellaw20_SourceParses.f, awake_f, Option.bind_some, if_pos rfl]
  split
  · rfl
  · rw [parse_f s a z hs _ (by omega), rparse_f s a z hs _ (by omega), Option.bind_some, Option.bind_some]
    simp
end Go.Proofs.Ytkdmjkknkefemaa.Pure
