/-
  NodeBytes: the law's walk: the Go text returns true for every node and every text, and writes nothing that was there.
-/
import Derived.Test.YtijlhdcebfglnaaNodeDec
namespace Go.Proofs.Ytijlhdcebfglnaa
open Go.RowKit

theorem rEnc_all (xs : List Int) : rEnc xs 32 = encTo xs 32 := by
  rw [rEnc_eq xs 32 (by omega)]; simp [noughts]
/-- What the two decoders tell. -/
def decAll (n : Nat) (bs : List Int) : List Int := if n = 64 then decTo bs 32 else zeros
def decErr (n : Nat) : Int := if n = 64 then 0 else 1
theorem decAll_length (n : Nat) (bs : List Int) : (decAll n bs).length = 32 := by
  unfold decAll; split
  · exact decTo_length bs 32
  · rfl
theorem decode_all (A : Option Addr) (n c : Nat) (bs : List Int) (w : World) (hbs : BytesAt w w.heap.size A n bs) :
    Calls Try.prog 17 #[.slice A n c] w fun e w' => e = .returned (.tuple #[.agg (ints .i64 (decAll n bs)), .int .i64 (decErr n)]) ∧ Below w.heap.size w w' := by
  unfold decAll decErr
  by_cases h : n = 64
  · subst h; rw [if_pos rfl, if_pos rfl]; exact decode_ok A c bs w hbs
  · rw [if_neg h, if_neg h]; exact decode_bad A n c h w
theorem rdecode_all (A : Option Addr) (n c : Nat) (bs : List Int) (w : World) (hbs : BytesAt w w.heap.size A n bs) :
    Calls Try.prog 18 #[.slice A n c] w fun e w' => e = .returned (.tuple #[.agg (ints .i64 (decAll n bs)), .int .i64 (decErr n)]) ∧ Below w.heap.size w w' := by
  unfold decAll decErr
  by_cases h : n = 64
  · subst h; rw [if_pos rfl, if_pos rfl]; exact rdecode_ok A c bs w hbs
  · rw [if_neg h, if_neg h]; exact rdecode_bad A n c h w
/-- What the two encoders tell. -/
def encN (m : Nat) : Nat := if m = 32 then 64 else 0
def encE (m : Nat) : Int := if m = 32 then 0 else 1
def encL (xs : List Int) (m : Nat) : List Int := if m = 32 then encTo xs 32 else []
theorem encL_length (xs : List Int) (m : Nat) : (encL xs m).length = encN m := by
  unfold encL encN; split
  · exact encTo_length xs 32
  · rfl
theorem encL_range (xs : List Int) (m : Nat) : ∀ x ∈ encL xs m, 0 ≤ x ∧ x < 256 := by
  unfold encL; split
  · exact encTo_range xs 32
  · simp
def EncSaid (w : World) (xs : List Int) (m : Nat) (e : Ending) (w' : World) : Prop :=
  ∃ A c, e = .returned (.tuple #[.slice A (encN m) c, .int .i64 (encE m)]) ∧ OwnBytes w' w.heap.size (.slice A (encN m) c) (encL xs m) ∧ Below w.heap.size w w'
theorem encSaid_of {w : World} {xs : List Int} {m : Nat} {e : Ending} {w' : World} (h : EncPost w xs m (encTo xs 32) e w') : EncSaid w xs m e w' := by
  obtain ⟨⟨hm, A, c, he, ho⟩ | ⟨hm, he⟩, hb⟩ := h
  · subst hm; exact ⟨A, c, he, ho, hb⟩
  · have hne : m ≠ 32 := by omega
    refine ⟨none, 0, ?_, ?_, hb⟩
    · rw [he]; unfold encN encE; rw [if_neg hne, if_neg hne]
    · unfold encN encL; rw [if_neg hne, if_neg hne]; exact World.ownsRow_nil _ _ _ _
theorem encode_all (xs : List Int) (hs : xs.length = 32) (m : Nat) (hm : Fits xs m) (w : World) : Calls Try.prog 15 #[.agg (ints .i64 xs)] w (EncSaid w xs m) :=
  (encode_any xs hs m hm w).mono fun _ _ h => encSaid_of h
theorem rencode_all (xs : List Int) (hs : xs.length = 32) (m : Nat) (hm : Fits xs m) (w : World) : Calls Try.prog 16 #[.agg (ints .i64 xs)] w (EncSaid w xs m) :=
  (rencode_any xs hs m hm w).mono fun _ _ h => encSaid_of (rEnc_all xs ▸ h)

theorem bytes_long (xs : List Int) (A : Option Addr) (n c : Nat) (hn : 1000 < n) (hn2 : n ≤ 140737488351232) (w : World) :
    Calls Try.prog 6 #[.agg (ints .i64 xs), .slice A n c] w fun e w' => e = .returned (.bool true) ∧ Below w.heap.size w w' := by
  go_enter Try.func6, Try.ntmps6
  go_wp2_with (go_at_call 8; refine (awake_any _).mono ?_; rintro e w' ⟨rfl, rfl⟩)
  go_ret
  exact ⟨rfl, (Below.refl _ _).alloc (Nat.le_refl _) _⟩

set_option maxHeartbeats 1000000 in
theorem bytes_short (xs : List Int) (hs : xs.length = 32) (A : Option Addr) (n c : Nat) (bs : List Int) (hn : n ≤ 1000) (w : World) (hbs : BytesAt w w.heap.size A n bs) :
    Calls Try.prog 6 #[.agg (ints .i64 xs), .slice A n c] w fun e w' => e = .returned (.bool true) ∧ Below w.heap.size w w' := by
  obtain ⟨m, hm⟩ := fits_some xs
  have hz := zeroValue34
  have heq := eq34_same (decAll n bs) (decAll_length n bs)
  have hsz := size34_of (k := .i64) (decAll_length n bs)
  have hzl := zeros_lit'
  go_enter Try.func6, Try.ntmps6
  go_wp2_with (first
    | (go_at_call 8; refine (awake_any _).mono ?_; rintro e w' ⟨rfl, rfl⟩)
    | (refine wpL_load rfl 34 (.tmp 2) rfl _ rfl 34 (ints .i64 xs) (0, 0) _ (heap_alloc_new _ _) Try.underlying34 rfl (size34_of hs) ?_))
  refine (encode_all xs hs m hm _).mono ?_
  rintro e1 w1 ⟨A1, c1, rfl, ho1, hb1⟩
  have hbox := heap_alloc_new w (.cells (ints .i64 xs) 34)
  have hb0 : Below w.heap.size w (w.alloc (.cells (ints .i64 xs) 34)) := (Below.refl _ _).alloc (Nat.le_refl _) _
  generalize hw0 : w.alloc (.cells (ints .i64 xs) 34) = w0 at *
  clear hw0
  have hbox1 := Lib.hid (blk_below hbox hb1 (blk_lt hbox))
  have Hsz := Lib.hid hsz
  clear hbox hsz
  go_wp2_with (refine wpL_load rfl 34 (.tmp 2) rfl _ rfl 34 (ints .i64 xs) (0, 0) _ hbox1.out Try.underlying34 rfl (size34_of hs) ?_)
  refine (rencode_all xs hs m hm _).mono ?_
  rintro e2 w2 ⟨A2, c2, rfl, ho2, hb2⟩
  have ho1 := ho1.below hb2 (Nat.le_refl _)
  have hbA : Below w.heap.size w w2 := (hb0.trans (hb1.mono hb0.size)).trans (hb2.mono (Nat.le_trans hb0.size hb1.size))
  go_wp2_with fail
  refine (decode_all A n c bs w2 ((hbs.below hbA).more hbA.size)).mono ?_
  rintro e3 w3 ⟨rfl, hb3⟩
  have ho1 := ho1.below hb3 (Nat.le_refl _)
  have ho2 := ho2.below hb3 (Nat.le_refl _)
  have hbB : Below w.heap.size w w3 := hbA.trans (hb3.mono hbA.size)
  go_wp2_with (refine wpL_store rfl 34 (.tmp 9) _ rfl _ (ints .i64 (decAll n bs)) rfl rfl 34 (ints .i64 zeros) (heap_alloc_new _ _) Hsz.out (by rw [ints_size, ints_size, decAll_length]; rfl) (ints_one _ _) ?_; rw [setRow_last _ _ _ _ _ rfl])
  have hp := Lib.hid (heap_alloc_new w3 (.cells (ints .i64 (decAll n bs)) 34))
  have hp0 := hp.out
  have ho1 := ho1.alloc (.cells (ints .i64 (decAll n bs)) 34)
  have ho2 := ho2.alloc (.cells (ints .i64 (decAll n bs)) 34)
  have hbC : Below w.heap.size w (w3.alloc (.cells (ints .i64 (decAll n bs)) 34)) := hbB.alloc hbB.size _
  generalize hw4 : w3.alloc (.cells (ints .i64 (decAll n bs)) 34) = w4 at *
  clear hw4
  refine (rdecode_all A n c bs w4 ((hbs.below hbC).more hbC.size)).mono ?_
  rintro e5 w5 ⟨rfl, hb5⟩
  have ho1 := ho1.below hb5 (Nat.le_refl _)
  have ho2 := ho2.below hb5 (Nat.le_refl _)
  have hp5 := Lib.hid (blk_below hp0 hb5 (blk_lt hp0))
  have hbD : Below w.heap.size w w5 := hbC.trans (hb5.mono hbC.size)
  clear hp0
  go_wp2_with (refine wpL_store rfl 34 (.tmp 11) _ rfl _ (ints .i64 (decAll n bs)) rfl rfl 34 (ints .i64 zeros) (heap_alloc_new _ _) Hsz.out (by rw [ints_size, ints_size, decAll_length]; rfl) (ints_one _ _) ?_; rw [setRow_last _ _ _ _ _ rfl])
  have hq := Lib.hid (heap_alloc_new w5 (.cells (ints .i64 (decAll n bs)) 34))
  have hp6 := Lib.hid (blk_alloc hp5.out (.cells (ints .i64 (decAll n bs)) 34))
  have ho1 := ho1.alloc (.cells (ints .i64 (decAll n bs)) 34)
  have ho2 := ho2.alloc (.cells (ints .i64 (decAll n bs)) 34)
  have hbE : Below w.heap.size w (w5.alloc (.cells (ints .i64 (decAll n bs)) 34)) := hbD.alloc hbD.size _
  generalize hw6 : w5.alloc (.cells (ints .i64 (decAll n bs)) 34) = w6 at *
  clear hw6
  have hsame := same_any A1 A2 (encN m) (encN m) c1 c2 (encL xs m) (encL xs m) _ _ w6 (ho1.at_ (encL_range xs m)) (ho2.at_ (encL_range xs m))
  rw [decide_eq_true rfl] at hsame
  have Hsame := Lib.hid hsame
  clear hsame
  refine Hsame.out.mono ?_
  rintro e7 w7 ⟨rfl, rfl⟩
  go_wp2_with (first
    | (refine wpL_load rfl 34 (.tmp 9) rfl _ rfl 34 (ints .i64 (decAll n bs)) (0, 0) _ hp6.out Try.underlying34 rfl Hsz.out ?_)
    | (refine wpL_load rfl 34 (.tmp 11) rfl _ rfl 34 (ints .i64 (decAll n bs)) (0, 0) _ hq.out Try.underlying34 rfl Hsz.out ?_))
  go_ret
  exact ⟨rfl, hbE⟩
theorem nodeBytes_walk (W : World) {H : Type} {enc : TypeId × Value → H} {base : Nat} {d : DataW H} {p : List MemPlace} (v : Value)
    (hok : Value.okWide Try.prog W .any base 34 v) (ht : DataW.Trod enc Try.prog W 0 (fun _ => true) true 34 v d p)
    (a : Option Addr) (len cap : Nat) (bs : List Int) (h : BytesAt W W.heap.size a len bs) (hl : len ≤ 140737488351232) :
    Calls Try.prog 6 #[v, .slice a len cap] W fun e W' => e = .returned (.bool true) ∧ Below W.heap.size W W' := by
  obtain ⟨xs, rfl, hs, _⟩ := open_arr Try.underlying34 Try.underlying3 (by kernel_rfl) (by kernel_rfl) hok ht
  by_cases hn : len ≤ 1000
  · exact bytes_short xs hs a len cap bs hn W h
  · exact bytes_long xs a len cap (by omega) hl W
end Go.Proofs.Ytijlhdcebfglnaa
