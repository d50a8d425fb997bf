/-
  SourceJoins: the law's walk. (begun; not finished)
-/
import Derived.Test.YtkdmjkknkefemaaEachLaw
import Derived.Test.YtkdmjkknkefemaaJoinArg
import Derived.Test.YtkdmjkknkefemaaBytes
namespace Go.Proofs.Ytkdmjkknkefemaa.Each
open Go.RowKit Go.Shelf Go.Proofs.Ytkdmjkknkefemaa
attribute [local go_sem] Oper.semAt_some
set_option linter.unusedVariables false
set_option linter.unusedSimpArgs false

/-- The blank behind word k. -/
def blank (bs : List Int) (k : Nat) : UInt8 := if k < bs.length then UInt8.ofNat ((bs[k]?.getD 0) % 33).toNat else 32
def wordOk (x : ByteArray) : Prop := 0 < x.size ∧ x.size ≤ 100 ∧ ∀ j : Nat, j < x.size → 32 < Go.Proofs.YtkdmjkknkefemaaW.PrintWords.bt x (j : Int)
/-- What the law's two blocks hold. -/
def J2 (w : World) (A : Option Addr) (n c : Nat) (W : World) : Prop :=
  W.heap[w.heap.size]? = some (.cells #[.slice A n c] 34 (0, 0)) ∧ W.heap[w.heap.size + 1]? = some (.cells #[.bool false] 4 (0, 0)) ∧ Below w.heap.size w W
theorem bt_get (x : ByteArray) (j : Nat) (h : j < x.size) : ((x[j]'h).toNat : Int) = Go.Proofs.YtkdmjkknkefemaaW.PrintWords.bt x (j : Int) := by
  unfold Go.Proofs.YtkdmjkknkefemaaW.PrintWords.bt
  rw [dif_pos (by rw [Int.toNat_natCast]; exact h)]
  simp only [Int.toNat_natCast]
def goodJ (ws : List ByteArray) (n : Nat) (pre : List (Nat × ByteArray)) : Prop := pre.length ≤ n ∧ ∀ i, i < pre.length → (pre[i]?.getD (0, ⟨#[]⟩)).2 = ws[i]?.getD ⟨#[]⟩
theorem goodJ_snoc {ws : List ByteArray} {n : Nat} {pre : List (Nat × ByteArray)} {x : Nat × ByteArray} (h : goodJ ws n pre) : goodJ ws n (pre ++ [x]) ↔ pre.length < n ∧ x.2 = ws[pre.length]?.getD ⟨#[]⟩ := by
  unfold goodJ
  rw [List.length_append, List.length_singleton]
  constructor
  · rintro ⟨h1, h2⟩
    refine ⟨h1, ?_⟩
    have := h2 pre.length (Nat.lt_succ_self _)
    rwa [List.getElem?_concat_length] at this
  · rintro ⟨h1, h2⟩
    refine ⟨h1, fun i hi => ?_⟩
    rcases Nat.lt_or_ge i pre.length with h3 | h3
    · rw [List.getElem?_append_left h3]
      exact h.2 i h3
    · obtain rfl : i = pre.length := by omega
      rw [List.getElem?_concat_length]
      exact h2
theorem goodJ_words {ws : List ByteArray} {n : Nat} {s : ByteArray} (hwd : ∀ i, i < n → there s i ∧ (wordN s i).2 = ws[i]?.getD ⟨#[]⟩) : ∀ k, k ≤ n → goodJ ws n (wordsTo s k)
  | 0, _ => ⟨Nat.zero_le _, fun i hi => absurd hi (Nat.not_lt_zero i)⟩
  | k + 1, hk => by
    have h := goodJ_words hwd k (by omega)
    rw [wordsTo_succ]
    rw [goodJ_snoc h, wordsTo_len]
    exact ⟨hk, (hwd k hk).2⟩
theorem J2_own {β : Type} (w : World) (A : Option Addr) (n c : Nat) (B : Nat) (hB : w.heap.size ≤ B) : OwnFrom B (fun (_ : β) W => J2 w A n c W) := fun _ W W' row hs hg hr =>
  ⟨blk_own hs.1 hg (fun r e => (hr r e).2), blk_own hs.2.1 hg (fun r e => (hr r e).2), hs.2.2.grown hg hs.2.2.size (fun k e => Nat.le_trans hB (hr k e).1)⟩
theorem J2.up {w W W' : World} {A : Option Addr} {n c : Nat} (h : J2 w A n c W) (hb : Below W.heap.size W W') : J2 w A n c W' :=
  ⟨blk_up h.1 hb, blk_up h.2.1 hb, h.2.2.trans (hb.mono h.2.2.size)⟩
/-- What holds between two rounds of the loop over the words. -/
def IJ (w : World) (A : Option Addr) (n c : Nat) (ws : List ByteArray) (s : ByteArray) (Bs b : Nat) (pre : List (Nat × ByteArray)) (W : World) : Prop :=
  goodJ ws n pre ∧ J2 w A n c W ∧ W.heap[Bs]? = some (.cells #[.string s] 9 (0, 0)) ∧ W.heap[b]? = some (.cells #[.int .i64 (pre.length : Int)] 3 (0, 0))
theorem IJ_own (w : World) (A : Option Addr) (n c : Nat) (ws : List ByteArray) (s : ByteArray) (Bs b B : Nat) (hB : w.heap.size ≤ B) : OwnFrom B (IJ w A n c ws s Bs b) := fun x W W' row hs hg hr =>
  ⟨hs.1, J2_own (β := Unit) w A n c B hB () W W' row hs.2.1 hg hr, blk_own hs.2.2.1 hg (fun r e => (hr r e).2), blk_own hs.2.2.2 hg (fun r e => (hr r e).2)⟩
theorem blank_le {w : World} {B : Nat} {A : Option Addr} {n : Nat} {bs : List Int} (h : BytesAt w B A n bs) (i : Nat) : (blank bs i).toNat ≤ 32 := by
  unfold blank
  split
  · have := h.range i
    generalize bs[i]?.getD 0 = y at *
    rw [UInt8.toNat_ofNat']
    omega
  · decide
theorem conv1 (W : World) (y : Int) : (convert 35 9 (.slice (some ⟨W.heap.size, 0, none⟩) 1 1)).run Try.prog (W.alloc (.cells #[.int .u8 y] 5)) = .ok (.string ⟨#[UInt8.ofNat y.toNat]⟩) (W.alloc (.cells #[.int .u8 y] 5)) :=
  run_convert_bytes_arg (P := Try.prog) _ 35 5 Try.underlying35 Try.underlying5 W.heap.size 0 1 1 [y] rfl (fun i hi => by
    obtain rfl : i = 0 := by omega
    exact cell_one (heap_alloc_new W _)) 9 Try.underlying9
theorem join_size_le (ws : List ByteArray) (bl : Nat → UInt8) : ∀ k, (∀ j, j < k → wordOk (ws[j]?.getD ⟨#[]⟩)) → (joinTo ws bl k).size ≤ 101 * k
  | 0, _ => Nat.le_refl 0
  | k + 1, h => by
    have h1 := join_size_le ws bl k (fun j hj => h j (by omega))
    have h2 := (h k (by omega)).2.1
    rw [joinTo_size]
    omega
set_option maxRecDepth 100000 in
set_option maxHeartbeats 2000000 in
theorem join_walk (w : World) (A : Option Addr) (n c : Nat) (ws : List ByteArray) (h : StrsAt w w.heap.size A n ws) (hnc : n ≤ c) (A' : Option Addr) (n' c' : Nat) (bs : List Int) (h' : BytesAt w w.heap.size A' n' bs) (hn : n ≤ 100) :
    CallsIn Fence.wide 8 Try.prog 7 #[.slice A n c, .slice A' n' c'] w fun e W' => e = .returned (.bool true) ∧ Below w.heap.size w W' := by
  have hni : (n : Int) ≤ 100 := by omega
  have hnil : ∀ (c : Array Value) (W : World), (binOp .eql 32 (.func (.func 19) #[] c) .nilFunc).run Try.prog W = .ok (.bool false) W := fun _ _ => by kernel_rfl
  refine callsIn_of_wp_marks Try.func7 rfl trivial ?_ rfl
  simp only [Try.ntmps7, List.size_toArray, List.length_cons, List.length_nil, Nat.reduceAdd, Nat.reduceSub, Array.replicate_succ, Array.replicate_zero, List.push_toArray, List.append_toArray, List.nil_append, List.cons_append]
  gi_wp2_with fail
  refine ⟨trivial, (callsIn_wide.2 (awake_any _)).mono ?_⟩
  rintro e w1 ⟨rfl, hb1⟩
  have hA : Below w.heap.size w ((w.alloc (.cells #[.slice A n c] 34)).alloc (.cells #[.bool false] 4)) := ((Below.refl _ _).alloc (Nat.le_refl _) _).alloc (by simp) _
  have h1 : w1.heap[w.heap.size]? = some (.cells #[.slice A n c] 34 (0, 0)) := blk_up (blk_alloc (heap_alloc_new w _) _) hb1
  have h2 : w1.heap[w.heap.size + 1]? = some (.cells #[.bool false] 4 (0, 0)) := blk_up (blk_new _ _ (by simp)) hb1
  have hbA : Below w.heap.size w w1 := hA.trans (hb1.mono hA.size)
  have hc1 := cell_one h1
  clear hA hb1
  gi_wp2_with fail
  gi_loopw [5, 21] (fun v i wr => ∃ k : Nat, k ≤ n ∧ i = .int .i64 k ∧ v = .string (joinTo ws (blank bs) k) ∧ (∀ j, j < k → wordOk (ws[j]?.getD ⟨#[]⟩)) ∧ J2 w A n c wr) (fun _ i _ => n - (intOf i).toNat)
  case atStart => exact ⟨0, Nat.zero_le _, rfl, rfl, fun j hj => absurd hj (Nat.not_lt_zero j), h1, h2, hbA⟩
  case round =>
    obtain ⟨k, hk, rfl, rfl, hok, hJ⟩ := hrel
    by_cases hlt : k < n
    · have hxs : (ws[k]?.getD ⟨#[]⟩).size ≤ 9223372036854775807 := by
        have : k < ws.length := by rw [h.1]; exact hlt
        rw [List.getElem?_eq_getElem this]
        exact h.2.1 _ (List.getElem_mem this)
      obtain ⟨b0, off, rfl, _, hcell⟩ := (h.below hJ.2.2).2.2 (by omega)
      have hci := hcell k hlt
      generalize hxk : ws[k]?.getD ⟨#[]⟩ = x at hci hxs
      have Hxk := Lib.hid hxk
      have i1 : (k : Int) < (n : Int) := Int.ofNat_lt.2 hlt
      have H := Lib.hid h
      have HJ := Lib.hid hJ
      have Hok := Lib.hid hok
      clear hxk hcell h hJ hok hc1 h1 h2
      gi_wp2_with fail
      gi_loopw [8] (fun i wi => ∃ j : Nat, j ≤ x.size ∧ i = .int .i64 j ∧ (∀ q : Nat, q < j → 32 < Go.Proofs.YtkdmjkknkefemaaW.PrintWords.bt x (q : Int)) ∧ wi = wr) (fun i _ => x.size - (intOf i).toNat)
      case atStart => exact ⟨0, Nat.zero_le _, rfl, fun q hq => absurd hq (Nat.not_lt_zero q), rfl⟩
      case round =>
        obtain ⟨j, hj, rfl, hq, rfl⟩ := hrel
        by_cases hjl : j < x.size
        · have hb := bt_get x j hjl
          have hnx : wrap64 ((j : Int) + 1) = ((j + 1 : Nat) : Int) := by rw [wrap64_of] <;> omega
          have i2 : (j : Int) < (x.size : Int) := Int.ofNat_lt.2 hjl
          by_cases h32 : Go.Proofs.YtkdmjkknkefemaaW.PrintWords.bt x (j : Int) ≤ 32
          · have hc2 := cell_one HJ.out.2.1
            have hf2 := frozen_of_row wr (w.heap.size + 1) 0 _ 4 HJ.out.2.1
            gi_wp2_with fail
            have hc := cell_one (heap_setCell_same wr (w.heap.size + 1) 0 _ 4 (.bool true) HJ.out.2.1)
            have hbw : Below w.heap.size w (wr.setCell ⟨w.heap.size + 1, 0, none⟩ (.bool true)) := HJ.out.2.2.setCell (by simp) _
            generalize wr.setCell ⟨w.heap.size + 1, 0, none⟩ (.bool true) = W5 at hc hbw ⊢
            exact ⟨.bool true, by simp [results, Try.results7, go_sem, hc], rfl, hbw⟩
          · have hms : x.size - (j + 1) < x.size - j := Nat.sub_lt_sub_left hjl (Nat.lt_succ_self j)
            gi_wp2_with fail
            go_roundw
            case rel =>
              refine ⟨j + 1, hjl, rfl, fun q hq' => ?_, trivial⟩
              rcases Nat.lt_or_ge q j with h1 | h1
              · exact hq q h1
              · obtain rfl : q = j := by omega
                omega
            case measure => exact hms
        · obtain rfl : j = x.size := by omega
          have i2 : ¬ (x.size : Int) < (x.size : Int) := by omega
          by_cases hz : x.size = 0
          · have hnl := nil_yes hz
            have hnl2 := size_nil hz
            have hc2 := cell_one HJ.out.2.1
            have hf2 := frozen_of_row wr (w.heap.size + 1) 0 _ 4 HJ.out.2.1
            gi_wp2_with fail
            have hc := cell_one (heap_setCell_same wr (w.heap.size + 1) 0 _ 4 (.bool true) HJ.out.2.1)
            have hbw : Below w.heap.size w (wr.setCell ⟨w.heap.size + 1, 0, none⟩ (.bool true)) := HJ.out.2.2.setCell (by simp) _
            generalize wr.setCell ⟨w.heap.size + 1, 0, none⟩ (.bool true) = W5 at hc hbw ⊢
            exact ⟨.bool true, by simp [results, Try.results7, go_sem, hc], rfl, hbw⟩
          · have hnl := nil_no (Nat.pos_of_ne_zero hz)
            have hnl2 : ¬ x.toList = [] := fun e => hz (nil_size e)
            by_cases hbig : 100 < x.size
            · have i3 : (100 : Int) < (x.size : Int) := Int.ofNat_lt.2 hbig
              have hc2 := cell_one HJ.out.2.1
              have hf2 := frozen_of_row wr (w.heap.size + 1) 0 _ 4 HJ.out.2.1
              gi_wp2_with fail
              have hc := cell_one (heap_setCell_same wr (w.heap.size + 1) 0 _ 4 (.bool true) HJ.out.2.1)
              have hbw : Below w.heap.size w (wr.setCell ⟨w.heap.size + 1, 0, none⟩ (.bool true)) := HJ.out.2.2.setCell (by simp) _
              generalize wr.setCell ⟨w.heap.size + 1, 0, none⟩ (.bool true) = W5 at hc hbw ⊢
              exact ⟨.bool true, by simp [results, Try.results7, go_sem, hc], rfl, hbw⟩
            · have i3 : ¬ (100 : Int) < (x.size : Int) := fun e => hbig (Int.ofNat_lt.1 e)
              have Hq := Lib.hid hq
              have Hz := Lib.hid hz
              have Hbig := Lib.hid hbig
              clear hq hz hbig
              have hok' : ∀ j, j < k + 1 → wordOk (ws[j]?.getD ⟨#[]⟩) := fun j hj => by
                rcases Nat.lt_or_ge j k with h1 | h1
                · exact Hok.out j h1
                · obtain rfl : j = k := by omega
                  rw [Hxk.out]
                  exact ⟨Nat.pos_of_ne_zero Hz.out, Nat.le_of_not_lt Hbig.out, Hq.out⟩
              have hms : n - (k + 1) < n - k := Nat.sub_lt_sub_left hlt (Nat.lt_succ_self k)
              have hnx : wrap64 ((k : Int) + 1) = ((k + 1 : Nat) : Int) := by rw [wrap64_of] <;> omega
              have hcat : ¬ 9223372036854775807 < (joinTo ws (blank bs) k).size + (x.size + 1) := by
                have := join_size_le ws (blank bs) k Hok.out
                omega
              have hcat2 : ¬ 9223372036854775807 < x.size + 1 := by omega
              by_cases hkb : k < n'
              · have i4 : (k : Int) < (n' : Int) := Int.ofNat_lt.2 hkb
                obtain ⟨b2, off2, rfl, hb2, hcell2⟩ := (h'.below HJ.out.2.2).2.2 (by omega)
                have hci2 := hcell2 k hkb
                have hrg := h'.range k
                have hbl : blank bs k = UInt8.ofNat ((bs[k]?.getD 0) % 33).toNat := by unfold blank; rw [if_pos (by rw [h'.1]; exact hkb)]
                clear hcell2
                generalize bs[k]?.getD 0 = y at hci2 hrg hbl
                have Hbl := Lib.hid hbl
                clear hbl
                have hcv := conv1 wr (y % 33)
                gi_wp2_with fail
                go_roundw
                case rel => exact ⟨k + 1, hlt, by first | rfl | rw [hnx], by rw [joinTo, Hxk.out, Hbl.out], hok', blk_alloc HJ.out.1 _, blk_alloc HJ.out.2.1 _, HJ.out.2.2.alloc HJ.out.2.2.size _⟩
                case measure => first | exact hms | (rw [hnx]; exact hms)
              · have i4 : ¬ (k : Int) < (n' : Int) := fun e => hkb (Int.ofNat_lt.1 e)
                have hbl : blank bs k = 32 := by unfold blank; rw [if_neg (by rw [h'.1]; exact hkb)]
                have Hbl := Lib.hid hbl
                clear hbl
                have hcv := conv1 wr 32
                gi_wp2_with fail
                go_roundw
                case rel => exact ⟨k + 1, hlt, by first | rfl | rw [hnx], by rw [joinTo, Hxk.out, Hbl.out], hok', blk_alloc HJ.out.1 _, blk_alloc HJ.out.2.1 _, HJ.out.2.2.alloc HJ.out.2.2.size _⟩
                case measure => first | exact hms | (rw [hnx]; exact hms)
    · obtain rfl : k = n := by omega
      have i1 : ¬ (k : Int) < (k : Int) := by omega
      have hlen := join_size_le ws (blank bs) k hok
      have HJ := Lib.hid hJ
      have H := Lib.hid h
      have Hok := Lib.hid hok
      clear h hJ hok hc1 h1 h2
      gi_wp2_with fail
      refine ⟨trivial, (callsIn_wide.2 (words_any _ _)).mono ?_⟩
      rintro e w2 ⟨rfl, rfl⟩
      have hBs0 : (wr.alloc (.cells #[.string (joinTo ws (blank bs) k)] 9)).heap[wr.heap.size]? = some (.cells #[.string (joinTo ws (blank bs) k)] 9 (0, 0)) := heap_alloc_new _ _
      have HJ0 : J2 w A k c (wr.alloc (.cells #[.string (joinTo ws (blank bs) k)] 9)) := ⟨blk_alloc HJ.out.1 _, blk_alloc HJ.out.2.1 _, HJ.out.2.2.alloc HJ.out.2.2.size _⟩
      have hg1 : w.heap.size + 1 < wr.heap.size := blk_lt HJ.out.2.1
      have hwn : ∀ i, i < k → 0 < (ws[i]?.getD ⟨#[]⟩).size ∧ ∀ j : Nat, j < (ws[i]?.getD ⟨#[]⟩).size → 32 < Go.Proofs.YtkdmjkknkefemaaW.PrintWords.bt (ws[i]?.getD ⟨#[]⟩) (j : Int) := fun i hi => ⟨(Hok.out i hi).1, (Hok.out i hi).2.2⟩
      obtain ⟨hpl, hwd⟩ := join_words ws (blank bs) k hwn (fun i hi => blank_le h' i) k (Nat.le_refl _)
      have hend := join_end _ k hpl
      generalize hS : joinTo ws (blank bs) k = s at *
      generalize hW0 : wr.alloc (.cells #[.string s] 9) = W0 at *
      clear hW0 HJ hbA hpl hwn Hok hS
      generalize wr.heap.size = Bs at *
      gi_wp2_with fail
      have Hwd := Lib.hid hwd
      have Hend := Lib.hid hend
      clear hwd hend
      have hI : IJ w A k c ws s Bs W0.heap.size [] (W0.alloc (.cells #[.int .i64 0] 3)) :=
        ⟨⟨Nat.zero_le _, fun i hi => absurd hi (Nat.not_lt_zero i)⟩, ⟨blk_alloc HJ0.1 _, blk_alloc HJ0.2.1 _, HJ0.2.2.alloc HJ0.2.2.size _⟩, blk_alloc hBs0 _, heap_alloc_new _ _⟩
      have hsz0 : Bs < W0.heap.size := blk_lt hBs0
      have hsz2 : W0.heap.size + 1 = (W0.alloc (.cells #[.int .i64 0] 3)).heap.size := by simp
      clear hBs0 HJ0
      generalize W0.alloc (.cells #[.int .i64 0] 3) = W2 at hI hsz2 ⊢
      generalize W0.heap.size = b at *
      refine wpIn_rangeFunc_ownG rfl (by omega) (gf := 19) (lb := #[.pointer (some ⟨Bs, 0, none⟩)]) rfl trivial (enters_of Try.func19 (by kernel_rfl) rfl)
        (words_stops Bs (Bs + 1) s (by omega) (by omega) W2 hI.2.2.1) belowK_t (belowK_b (by omega)) (Below.refl _ _) (fun _ => rfl)
        (IJ w A k c ws s Bs b) (fun e pre _ => e = .ret ∧ ¬ goodJ ws k pre) (IJ_own w A k c ws s Bs b _ (by omega)) (fun c => ownFrom_pure _ _) hI
        (fun x => { tmps := #[.slice A k c, .slice A' n' c', .pointer (some ⟨w.heap.size, 0, none⟩), undef,
          .pointer (some ⟨w.heap.size + 1, 0, none⟩), .string s, u6, u7, u8, u9,
          .func (.func 19) #[] #[.pointer (some ⟨Bs, 0, none⟩)],
          .pointer (some ⟨b, 0, none⟩), undef, .string x.2, .bool true, .bool false,
          .slice A k c, .int .i64 (k : Int), .bool (decide (100 < (k : Int))), .slice A k c,
          .int .i64 (k : Int), .int .i64 (k : Int), .bool false, u23, u24, u25, u26, u27, u28, u29, u30, u31, u32, u33, u34, u35, u36, u37, u38, u39, u40, u41, u42, u43, u44, u45, u46, u47, u48, u49, u50, u51, u52, u53, u54, u55, u56, u57, u58, u59, .string s,
          .func (.func 19) #[] #[.pointer (some ⟨Bs, 0, none⟩)],
          .func (.func 19) #[] #[.pointer (some ⟨Bs, 0, none⟩)], .bool false,
          .func (.func 19) #[] #[.pointer (some ⟨Bs, 0, none⟩)], .int .i64 x.1, .string x.2, undef, undef,
          undef, undef, undef, undef, undef, undef, undef, undef, undef, undef, undef, undef, undef, undef, undef, undef], defers := [] }) ?_ ?_ ?_ ?_
      · intro l x W K hK
        gi_wp2
        exact hK
      · rintro l pre ⟨f, v⟩ W3 ⟨hg, hJ3, hB3, hb3⟩ _
        have hsn := goodJ_snoc (x := (f, v)) hg
        have hlen3 : (pre ++ [(f, v)]).length = pre.length + 1 := by rw [List.length_append]; rfl
        have hple := hg.1
        have hwa := H.out.below hJ3.2.2
        clear hg
        generalize hp : pre.length = p at *
        have hc0 := cell_one hJ3.1
        have hcb := cell_one hb3
        have hc1 := cell_one hJ3.2.1
        have hf1 := frozen_of_row W3 (w.heap.size + 1) 0 _ 4 hJ3.2.1
        have hfb := frozen_of_row W3 b 0 _ 3 hb3
        have Hsn := Lib.hid hsn
        have HJ3 := Lib.hid hJ3
        have HB3 := Lib.hid hB3
        have Hb3 := Lib.hid hb3
        clear hsn hJ3 hB3 hb3
        dsimp only
        by_cases c1 : p < k
        · have i1 : (p : Int) < (k : Int) := Int.ofNat_lt.2 c1
          have i2 : ¬ (k : Int) ≤ (p : Int) := Int.not_le.2 i1
          have hd1 : decide ((k : Int) ≤ (p : Int)) = false := decide_eq_false i2
          have hd2 : decide (k ≤ p) = false := decide_eq_false (Nat.not_le_of_lt c1)
          obtain ⟨b0, off, rfl, _, hcell⟩ := hwa.2.2 (by omega)
          have hci := hcell p c1
          clear hcell hwa
          generalize hx : ws[p]?.getD ⟨#[]⟩ = x at hci
          have Hx := Lib.hid hx
          clear hx
          have hnx : wrap64 ((p : Int) + 1) = ((p + 1 : Nat) : Int) := by rw [wrap64_of] <;> omega
          by_cases c2 : v = x
          · have hgood : goodJ ws k (pre ++ [(f, v)]) := Hsn.out.2 ⟨c1, by rw [c2, ← Hx.out]⟩
            have Hg := Lib.hid hgood
            subst c2
            clear hgood
            gi_wp2_with fail
            refine ⟨(KeepsOthers.setCell _ _ _).from _, (Below.refl _ _).setCell (by simp; omega) _, Hg.out,
              ⟨blk_far HJ3.out.1 (by simp; omega) _, blk_far HJ3.out.2.1 (by simp; omega) _, HJ3.out.2.2.setCell (by simp; omega) _⟩, blk_far HB3.out (by simp; omega) _, ?_⟩
            rw [hlen3]
            exact heap_setCell_same W3 b 0 _ 3 _ Hb3.out
          · have hbad : ¬ goodJ ws k (pre ++ [(f, v)]) := fun h => c2 (by have := (Hsn.out.1 h).2; rw [← Hx.out]; exact this)
            have Hb := Lib.hid hbad
            have hne1 := toList_ne c2
            have hne2 := toList_ne2 c2
            clear c2 hbad
            gi_wp2_with fail
            exact ⟨(KeepsOthers.setCell _ _ _).from _, rfl, Hb.out⟩
        · have hbad : ¬ goodJ ws k (pre ++ [(f, v)]) := fun h => c1 (Hsn.out.1 h).1
          have i2 : (k : Int) ≤ (p : Int) := Int.ofNat_le.2 (Nat.le_of_not_lt c1)
          have hd1 : decide ((k : Int) ≤ (p : Int)) = true := decide_eq_true i2
          have hd2 : decide (k ≤ p) = true := decide_eq_true (Nat.le_of_not_lt c1)
          have Hb := Lib.hid hbad
          clear c1 hbad
          gi_wp2_with fail
          exact ⟨(KeepsOthers.setCell _ _ _).from _, rfl, Hb.out⟩
      · rintro D ys W3 hD ⟨m, rfl, hth, hnt⟩ ⟨hg, hJ3, hB3, hb3⟩ hK
        have hm : m = k := by
          have h1 := hg.1
          rw [wordsTo_len] at h1
          rcases Nat.lt_or_ge m k with h2 | h2
          · exact absurd (Hwd.out m h2).1 hnt
          · omega
        rw [wordsTo_len, hm] at hb3
        have hc0 := cell_one hJ3.1
        have hcb := cell_one hb3
        have hc1 := cell_one hJ3.2.1
        have hf1 := frozen_of_row W3 (w.heap.size + 1) 0 _ 4 hJ3.2.1
        have HJ3 := Lib.hid hJ3
        have HK := Lib.hid hK
        clear hg hJ3 hB3 hb3 hK hth hnt
        gi_wp2_with fail
        have hR : (W3.setCell ⟨w.heap.size + 1, 0, none⟩ (.bool true)).heap[w.heap.size + 1]? = some (.cells #[.bool true] 4 (0, 0)) := heap_setCell_same W3 (w.heap.size + 1) 0 _ 4 _ HJ3.out.2.1
        have hbw : Below w.heap.size w (W3.setCell ⟨w.heap.size + 1, 0, none⟩ (.bool true)) := HJ3.out.2.2.setCell (by simp) _
        have hd1 := blk_far (p := ⟨w.heap.size + 1, 0, none⟩) HK.out (by simp; omega) (.bool true)
        generalize W3.setCell ⟨w.heap.size + 1, 0, none⟩ (.bool true) = W5 at hR hbw hd1 ⊢
        refine ⟨by simp, .inl ⟨D, _, rfl, run_takeDeferred hd1, ?_⟩⟩
        have hR2 : (W5.putObj D (.deferred none)).heap[w.heap.size + 1]? = some (.cells #[.bool true] 4 (0, 0)) := (World.putObj_heap_other (by omega)).trans hR
        have hc := cell_one hR2
        refine ⟨.bool true, by simp [results, Try.results7, go_sem, hc], rfl, ?_⟩
        exact hbw.grown (grownBy_putObj' _ _ _) hbw.size (fun k e => by cases e; omega)
      · rintro D e pre W3 hD ⟨m, rfl, hth⟩ ⟨rfl, hbad⟩ _
        refine absurd (goodJ_words Hwd.out m ?_) hbad
        rcases Nat.lt_or_ge k m with h2 | h2
        · exact absurd (hth k h2) Hend.out
        · exact h2
set_option maxRecDepth 100000 in
set_option maxHeartbeats 2000000 in
theorem join_long (w : World) (A : Option Addr) (n c : Nat) (A' : Option Addr) (n' c' : Nat) (hn : ¬ n ≤ 100) :
    CallsIn Fence.wide 8 Try.prog 7 #[.slice A n c, .slice A' n' c'] w fun e W' => e = .returned (.bool true) ∧ Below w.heap.size w W' := by
  have hni : (100 : Int) < (n : Int) := by omega
  refine callsIn_of_wp_marks Try.func7 rfl trivial ?_ rfl
  simp only [Try.ntmps7, List.size_toArray, List.length_cons, List.length_nil, Nat.reduceAdd, Nat.reduceSub, Array.replicate_succ, Array.replicate_zero, List.push_toArray, List.append_toArray, List.nil_append, List.cons_append]
  gi_wp2_with fail
  refine ⟨trivial, (callsIn_wide.2 (awake_any _)).mono ?_⟩
  rintro e w1 ⟨rfl, hb1⟩
  have hA : Below w.heap.size w ((w.alloc (.cells #[.slice A n c] 34)).alloc (.cells #[.bool false] 4)) := ((Below.refl _ _).alloc (Nat.le_refl _) _).alloc (by simp) _
  have h1 : w1.heap[w.heap.size]? = some (.cells #[.slice A n c] 34 (0, 0)) := blk_up (blk_alloc (heap_alloc_new w _) _) hb1
  have h2 : w1.heap[w.heap.size + 1]? = some (.cells #[.bool false] 4 (0, 0)) := blk_up (blk_new _ _ (by simp)) hb1
  have hbA : Below w.heap.size w w1 := hA.trans (hb1.mono hA.size)
  have hc1 := cell_one h1
  have hc2 := cell_one h2
  have hf2 := frozen_of_row w1 (w.heap.size + 1) 0 _ 4 h2
  clear hA hb1
  gi_wp2_with fail
  have hR : (w1.setCell ⟨w.heap.size + 1, 0, none⟩ (.bool true)).heap[w.heap.size + 1]? = some (.cells #[.bool true] 4 (0, 0)) := heap_setCell_same w1 (w.heap.size + 1) 0 _ 4 _ h2
  have hbw : Below w.heap.size w (w1.setCell ⟨w.heap.size + 1, 0, none⟩ (.bool true)) := hbA.setCell (by simp) _
  have hc := cell_one hR
  generalize w1.setCell ⟨w.heap.size + 1, 0, none⟩ (.bool true) = W5 at hR hbw hc ⊢
  exact ⟨.bool true, by simp [results, Try.results7, go_sem, hc], rfl, hbw⟩
end Go.Proofs.Ytkdmjkknkefemaa.Each
namespace Go.Proofs.Ytkdmjkknkefemaa
open Go.RowKit
theorem sourceJoins_walk (W : World) (A : Option Addr) (n c : Nat) (ws : List ByteArray) (h : StrsAt W W.heap.size A n ws) (hnc : n ≤ c) (A' : Option Addr) (n' c' : Nat) (bs : List Int) (h' : BytesAt W W.heap.size A' n' bs) (hnc' : n' ≤ c') (hc' : c' ≤ 140737488351232) :
    Calls Try.prog 7 #[.slice A n c, .slice A' n' c'] W fun e W' => e = .returned (.bool true) ∧ Below W.heap.size W W' := by
  by_cases hn : n ≤ 100
  · exact callsIn_wide.1 (Each.join_walk W A n c ws h hnc A' n' c' bs h' hn)
  · exact callsIn_wide.1 (Each.join_long W A n c A' n' c' hn)
end Go.Proofs.Ytkdmjkknkefemaa
