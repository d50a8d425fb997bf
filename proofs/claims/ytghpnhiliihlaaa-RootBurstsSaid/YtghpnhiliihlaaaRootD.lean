/-
  root: the reader's num, record, Decode.
-/
import Derived.Test.YtghpnhiliihlaaaRootB
import Derived.Test.YtghpnhiliihlaaaLeMath
import Derived.BigQuiet
import Derived.StillTailTactics
import Derived.Deep.QuietTactic
namespace Go.Proofs.Ytghpnhiliihlaaa.Root
open Go.RowKit Go.Shelf Go.Proofs.Ytghpnhiliihlaaa
attribute [local go_sem] Oper.semAt_some
set_option linter.unusedVariables false
set_option linter.unusedSimpArgs false

set_option maxRecDepth 100000 in
set_option maxHeartbeats 2000000 in
theorem rnum_step (gr : Nat) (A : Option Addr) (n c : Nat) (bs : List Int) (a size : Int) (B : Nat) (w : World) (hr : w.heap[gr]? = some (.cells #[.slice A n c, .int .i64 a] 73 (0, 0))) (hbs : BytesAt w B A n bs) (hB : B ≤ w.heap.size) (hn : n ≤ 140737488351232)
    (ha0 : 0 ≤ a) (hs0 : 0 ≤ size) (has : a + size ≤ 1000) :
    Calls Try.prog 48 #[.pointer (some ⟨gr, 0, none⟩), .int .i64 size] w fun e w' => e = .returned (.int .u64 (numTo bs a (rounds8 size))) ∧
      w'.heap[gr]? = some (.cells #[.slice A n c, .int .i64 (a + size)] 73 (0, 0)) ∧ (∀ x, x < w.heap.size → x ≠ gr → w'.heap[x]? = w.heap[x]?) ∧ ∀ B, B ≤ gr → Below B w w' := by
  have hc0 : w.cell? ⟨gr, 0, none⟩ = some (.slice A n c) := cell_of_row w _ 0 _ _ _ hr
  have hc1 : w.cell? ⟨gr, 1, none⟩ = some (.int .i64 a) := cell_of_row w _ 1 _ _ _ hr
  have hnx : wrap64 (a + size) = a + size := wrap64_of (by omega) (by omega)
  go_enter Try.func48, Try.ntmps48
  go_wp2
  go_still_tail 9, (by kernel_rfl)
  change wpList _ _ _ _ _ w.drew
  go_wp2_with fail
  have hbd : Below w.heap.size w w.drew := (Below.refl _ _).drew
  refine (num_any A n c bs a size hn (by omega) (by omega) w.drew ((hbs.more hB).below hbd)).mono ?_
  rintro e w1 ⟨rfl, hb1⟩
  have hb1 : Below w.heap.size w w1 := hbd.trans hb1
  have hr1 := blk_below hr hb1 (blk_lt hr)
  have hc0 : w1.cell? ⟨gr, 0, none⟩ = some (.slice A n c) := cell_of_row w1 _ 0 _ _ _ hr1
  have hc1 : w1.cell? ⟨gr, 1, none⟩ = some (.int .i64 a) := cell_of_row w1 _ 1 _ _ _ hr1
  have hf1 := frozen_blk hr1 1
  go_wp2_with fail
  go_ret
  refine ⟨rfl, heap_setCell_same w1 gr 1 _ 73 _ hr1, fun x hx hne => ?_, fun B hB => ?_⟩
  · exact (heap_set2 _ _ _ _ _ hne).trans (hb1.block x hx)
  · exact (hb1.mono (by have := blk_lt hr; omega)).setCell (by simpa using hB) _

open Go.Proofs.YtghpnhiliihlaaaW.PrintWords (Kd)
/-- What the record's reader reads. -/
def manyOf (bs : List Int) : Nat := (numTo bs 12 2).toNat
def snapOf (bs : List Int) (i : Nat) : S63 := ⟨numTo bs (14 + 10 * (i : Int)) 8, numTo bs (22 + 10 * (i : Int)) 2⟩
def snapsOf (bs : List Int) : Nat → List S63
  | 0 => []
  | k + 1 => snapsOf bs k ++ [snapOf bs k]
theorem snapsOf_length (bs : List Int) : ∀ k, (snapsOf bs k).length = k
  | 0 => rfl
  | k + 1 => by rw [snapsOf, List.length_append, snapsOf_length bs k]; rfl
def genOf (bs : List Int) : Int := numTo bs 4 8
structure recOk (bs : List Int) : Prop where
  len : bs.length = 64
  magic : numTo bs 0 4 = 1280459075
  many : manyOf bs ≤ 4
  tail : ∀ i : Nat, 14 + 10 * manyOf bs ≤ i → i < 60 → numTo bs (i : Int) 1 = 0
  sum : numTo bs 60 4 = ((4294967295 ^^^ crcTo (bs.take 60) 60 : Nat) : Int)
  ok : okRoot (genOf bs) (snapsOf bs (manyOf bs))
/-- What holds while a record is read. -/
def RecSt (w : World) (A : Option Addr) (n c gr : Nat) (a : Int) (W : World) : Prop :=
  W.heap[w.heap.size]? = some (.cells #[.int .u64 0, .slice none 0 0] 40 (0, 0)) ∧ W.heap[gr]? = some (.cells #[.slice A n c, .int .i64 a] 73 (0, 0)) ∧ Below w.heap.size w W
theorem num_step {w W : World} {A : Option Addr} {n c gr : Nat} {a : Int} {bs : List Int} (st : RecSt w A n c gr a W) (hbs : BytesAt w w.heap.size A n bs) (hgr : w.heap.size < gr) (hn : n ≤ 140737488351232) (ha0 : 0 ≤ a) (size : Int) (hs0 : 0 ≤ size) (has : a + size ≤ 1000)
    (m : Nat) (hm : rounds8 size = m) (a' : Int) (ha' : a + size = a') :
    Calls Try.prog 48 #[.pointer (some ⟨gr, 0, none⟩), .int .i64 size] W fun e W' => e = .returned (.int .u64 (numTo bs a m)) ∧ RecSt w A n c gr a' W' ∧ ∀ x, x < W.heap.size → x ≠ gr → W'.heap[x]? = W.heap[x]? := by
  obtain ⟨h1, h2, h3⟩ := st
  subst hm
  subst ha'
  refine (rnum_step gr A n c bs a size w.heap.size W h2 (hbs.below h3) h3.size hn ha0 hs0 has).mono ?_
  rintro e W' ⟨rfl, h4, h5, h6⟩
  exact ⟨rfl, ⟨(h5 _ (blk_lt h1) (by omega)).trans h1, h4, h3.trans (h6 _ (by omega))⟩, h5⟩
theorem num_range {bs : List Int} (hr : ∀ x ∈ bs, 0 ≤ x ∧ x < 256) (a m : Nat) (hm : m ≤ 8) (h : a + m ≤ bs.length) : 0 ≤ numTo bs (a : Int) m ∧ numTo bs (a : Int) m < 256 ^ m := by
  rw [numTo_val hr a m hm h]
  have := leOf_range (isBytes_take (isBytes_drop hr a) m)
  rw [List.length_take, List.length_drop, Nat.min_eq_left (by omega)] at this
  exact this
def OwnSnaps (w : World) (base : Nat) (v : Value) (l : List S63) : Prop := Kd.R PRootReads.k63 63 w base (fun _ => True) v l
theorem k63_E : ∀ q, q ∈ 63 :: PRootReads.k63.E → q = 63 := by
  intro q hq
  rcases List.mem_cons.1 hq with h | h
  · exact h
  · have : PRootReads.k63.E = [] := rfl
    rw [this] at h
    cases h
theorem OwnSnaps.step {w w' : World} {base : Nat} {v : Value} {l : List S63} (h : OwnSnaps w base v l) (hm : ∀ k, k < w.heap.size → (∃ cells, w.heap[k]? = some (.cells cells 63 (0, 0))) → w'.heap[k]? = w.heap[k]?) : OwnSnaps w' base v l :=
  Kd.R_mono (Kd.R_move (Kd.R_bound h) (fun k hk => by
    obtain ⟨_, _, hlt, q, hq, cells, hc⟩ := hk
    exact hm k hlt ⟨cells, by rw [hc, k63_E q hq]⟩)) (fun _ _ => trivial)
theorem OwnSnaps.ne {w : World} {base : Nat} {v : Value} {l : List S63} (h : OwnSnaps w base v l) {g t : Nat} {cells : Array Value} (hb : w.heap[g]? = some (.cells cells t (0, 0))) (ht : t ≠ 63) : some g ≠ v.ownBlock :=
  Kd.R_ne h hb (Ne.symm ht)
theorem info63 : (Try.prog.info? 63).map (fun i => (i.zero, i.size, i.bytes)) = some (some (.agg #[.int .u64 0, .int .i64 0]), PRootReads.k63.sz, 16) := by kernel_rfl
/-- A record's reading: besides, the root so far. -/
def RecSt2 (w : World) (A : Option Addr) (n c gr go : Nat) (bs : List Int) (k : Nat) (a : Int) (W : World) : Prop :=
  RecSt w A n c gr a W ∧ ∃ v, W.heap[go]? = some (.cells #[.int .u64 (genOf bs), v] 40 (0, 0)) ∧ OwnSnaps W w.heap.size v (snapsOf bs k)
def atOf (gr : Nat) (W : World) : Nat := (intOf ((W.cell? ⟨gr, 1, none⟩).getD undef)).toNat
theorem atOf_is {w : World} {A : Option Addr} {n c gr : Nat} {a : Int} {W : World} (h : RecSt w A n c gr a W) : atOf gr W = a.toNat := by
  have : W.cell? ⟨gr, 1, none⟩ = some (.int .i64 a) := cell_of_row W _ 1 _ _ _ h.2.1
  unfold atOf
  rw [this]
  rfl
set_option maxRecDepth 100000 in
set_option maxHeartbeats 2000000 in
theorem record_any (A : Option Addr) (n c : Nat) (bs : List Int) (w : World) (hbs : BytesAt w w.heap.size A n bs) (hnc : n ≤ c) (hn : n ≤ 140737488351232) :
    Calls Try.prog 46 #[.slice A n c] w fun e w' => Below w.heap.size w w' ∧
      ((recOk bs ∧ ∃ A' c', e = .returned (.agg #[.int .u64 (genOf bs), .slice A' (manyOf bs) c']) ∧ OwnSnaps w' w.heap.size (.slice A' (manyOf bs) c') (snapsOf bs (manyOf bs))) ∨ (¬ recOk bs ∧ e = .panicked [wrongV])) := by
  have hmf : ∀ (fn : Fn) (first cap : Array Value) (w : World), (Instr.makeFunc fn first cap).run Try.prog w = .ok (.func fn first cap) w := fun _ _ _ _ => rfl
  have hl := hbs.1
  go_enter Try.func46, Try.ntmps46
  go_wp2_with fail
  by_cases h64 : n = 64
  · subst h64
    refine (must_yes _).mono ?_
    rintro e w1 ⟨rfl, rfl⟩
    go_wp2_with fail
    have hS : RecSt w A 64 c (w.heap.size + 1) 0 ((w.alloc (.cells #[.int .u64 0, .slice none 0 0] 40)).alloc (.cells #[.slice A 64 c, .int .i64 0] 73)) :=
      ⟨blk_alloc (heap_alloc_new _ _) _, blk_new _ _ (by simp), ((Below.refl _ _).alloc (Nat.le_refl _) _).alloc (by simp) _⟩
    generalize (w.alloc (.cells #[.int .u64 0, .slice none 0 0] 40)).alloc (.cells #[.slice A 64 c, .int .i64 0] 73) = W1 at hS ⊢
    have hgr : w.heap.size < w.heap.size + 1 := Nat.lt_succ_self _
    generalize w.heap.size + 1 = gr at hS hgr ⊢
    have hr : ∀ x ∈ bs, 0 ≤ x ∧ x < 256 := hbs.2.1
    refine (num_step hS hbs hgr hn (by omega) 4 (by omega) (by omega) 4 rfl 4 rfl).mono ?_
    rintro e W2 ⟨rfl, hS2, -⟩
    clear hS
    have HS2 := Lib.hid hS2
    clear hS2
    go_wp2_with fail
    by_cases hmag : numTo bs 0 4 = 1280459075
    · rw [show (numTo bs 0 4 == 1280459075) = true from beq_iff_eq.2 hmag]
      refine (must_yes _).mono ?_
      rintro e w1 ⟨rfl, rfl⟩
      go_wp2_with fail
      refine (num_step HS2.out hbs hgr hn (by omega) 8 (by omega) (by omega) 8 rfl 12 rfl).mono ?_
      rintro e W3 ⟨rfl, hS3, -⟩
      have HS3 := Lib.hid hS3
      clear HS2 hS3
      go_wp2_with fail
      have hgo : (W3.alloc (.cells #[.int .u64 (genOf bs), .slice none 0 0] 40)).heap[W3.heap.size]? = some (.cells #[.int .u64 (genOf bs), .slice none 0 0] 40 (0, 0)) := heap_alloc_new _ _
      change Calls Try.prog 48 _ (W3.alloc (.cells #[.int .u64 (genOf bs), .slice none 0 0] 40)) _
      have hS4 : RecSt w A 64 c gr 12 (W3.alloc (.cells #[.int .u64 (genOf bs), .slice none 0 0] 40)) := ⟨blk_alloc HS3.out.1 _, blk_alloc HS3.out.2.1 _, HS3.out.2.2.alloc HS3.out.2.2.size _⟩
      have hgoge : w.heap.size ≤ W3.heap.size := HS3.out.2.2.size
      have hgone : W3.heap.size ≠ gr := fun e => by have := blk_lt HS3.out.2.1; omega
      have hgone2 : W3.heap.size ≠ w.heap.size := fun e => by have := blk_lt HS3.out.1; omega
      clear HS3
      generalize W3.alloc (.cells #[.int .u64 (genOf bs), .slice none 0 0] 40) = W4 at hgo hS4 ⊢
      generalize W3.heap.size = go at hgo hgoge hgone hgone2 ⊢
      have hgolt := blk_lt hgo
      refine (num_step hS4 hbs hgr hn (by omega) 2 (by omega) (by omega) 2 rfl 14 rfl).mono ?_
      rintro e W5 ⟨rfl, hS5, hk5⟩
      have hgo5 := (hk5 go hgolt hgone).trans hgo
      have hm0 := num_range hr 12 2 (by omega) (by omega)
      have hmany : numTo bs ((12 : Nat) : Int) 2 = (manyOf bs : Int) := (Int.toNat_of_nonneg hm0.1).symm
      change numTo bs 12 2 = (manyOf bs : Int) at hmany
      rw [hmany]
      have HS5 := Lib.hid hS5
      have Hgo5 := Lib.hid hgo5
      clear hS4 hS5 hgo hk5 hgo5 hgolt hmany hm0
      have hmge : manyOf bs = (manyOf bs : Nat) := rfl
      generalize hM : manyOf bs = M at hmge ⊢
      have HM := Lib.hid hM
      clear hM hmge
      by_cases h4 : M ≤ 4
      · have h4i : (M : Int) ≤ 4 := Int.ofNat_le.2 h4
        go_wp2_with fail
        refine (must_yes _).mono ?_
        rintro e w1 ⟨rfl, rfl⟩
        go_wp2_with fail
        go_loopw [30] (fun i wr => ∃ k : Nat, k ≤ M ∧ i = .int .u64 k ∧ RecSt2 w A 64 c gr go bs k (14 + 10 * (k : Int)) wr) (fun i _ => M - (intOf i).toNat)
        case atStart => exact ⟨0, Nat.zero_le _, rfl, HS5.out, _, Hgo5.out, Kd.R_nil _ _ _ _ _⟩
        case round =>
          obtain ⟨k, hk, rfl, hS, v, hgo, hown⟩ := hrel
          clear HS5 Hgo5
          by_cases hlt : k < M
          · have hnx : IntKind.u64.wrap ((k : Int) + 1) = ((k + 1 : Nat) : Int) := u64_of (by omega) (by omega)
            have i1 : (k : Int) < (M : Int) := Int.ofNat_lt.2 hlt
            have k4 : k < 4 := Nat.lt_of_lt_of_le hlt h4
            have HS := Lib.hid hS
            have Hgo := Lib.hid hgo
            have Hown := Lib.hid hown
            clear hS hgo hown
            have ik4 : (k : Int) < 4 := Int.ofNat_lt.2 k4
            go_wp2_with fail
            refine (num_step HS.out hbs hgr hn (by omega) 8 (by omega) (by omega) 8 rfl (22 + 10 * (k : Int)) (by omega)).mono ?_
            rintro e W6 ⟨rfl, hS6, hk6⟩
            have hsn : snapsOf bs (k + 1) = snapsOf bs k ++ [⟨numTo bs (14 + 10 * (k : Int)) 8, numTo bs (22 + 10 * (k : Int)) 2⟩] := rfl
            have hx1r := num_range hr (22 + 10 * k) 2 (by omega) (by omega)
            rw [show ((22 + 10 * k : Nat) : Int) = 22 + 10 * (k : Int) by omega] at hx1r
            generalize hx0 : numTo bs (14 + 10 * (k : Int)) 8 = x0 at hsn ⊢
            have Hsn := Lib.hid hsn
            clear hsn
            have HS6 := Lib.hid hS6
            have Hk6 := Lib.hid hk6
            clear hS6 hk6
            go_wp2_with fail
            have hS7 : RecSt w A 64 c gr (22 + 10 * (k : Int)) (W6.alloc (.cells #[.int .u64 x0, .int .i64 0] 63)) := ⟨blk_alloc HS6.out.1 _, blk_alloc HS6.out.2.1 _, HS6.out.2.2.alloc HS6.out.2.2.size _⟩
            refine (num_step hS7 hbs hgr hn (by omega) 2 (by omega) (by omega) 2 rfl (14 + 10 * ((k + 1 : Nat) : Int)) (by omega)).mono ?_
            rintro e W8 ⟨rfl, hS8, hk8⟩
            generalize hx1 : numTo bs (22 + 10 * (k : Int)) 2 = x1 at hx1r Hsn ⊢
            have hlt6 : wr.heap.size ≤ W6.heap.size := by
              rcases Nat.lt_or_ge W6.heap.size wr.heap.size with h | h
              · exfalso
                have h1 := Hk6.out W6.heap.size h (fun e => by have := blk_lt HS6.out.2.1; omega)
                rw [Array.getElem?_eq_none (Nat.le_refl _), Array.getElem?_eq_getElem h] at h1
                cases h1
              · exact h
            have hk68 : ∀ x, x < wr.heap.size → x ≠ gr → W8.heap[x]? = wr.heap[x]? := fun x hx hne =>
              (hk8 x (by simp; omega) hne).trans ((Below.heap_alloc W6 _ x (by omega)).trans (Hk6.out x hx hne))
            have hgs : W8.heap[W6.heap.size]? = some (.cells #[.int .u64 x0, .int .i64 0] 63 (0, 0)) := (hk8 _ (by simp) (fun e => by have := blk_lt HS6.out.2.1; omega)).trans (heap_alloc_new _ _)
            have hgsr : W6.heap.size ≠ gr := fun e => by have := blk_lt HS6.out.2.1; omega
            have hgo8 : W8.heap[go]? = some (.cells #[.int .u64 (genOf bs), v] 40 (0, 0)) := (hk68 go (blk_lt Hgo.out) hgone).trans Hgo.out
            have hgsgo : W6.heap.size ≠ go := fun e => by have := blk_lt Hgo.out; omega
            have hgsres : W6.heap.size ≠ w.heap.size := fun e => by have := blk_lt HS6.out.1; omega
            have hgs9 : (W8.setCell ⟨W6.heap.size, 1, none⟩ (.int .i64 x1)).heap[W6.heap.size]? = some (.cells #[.int .u64 x0, .int .i64 x1] 63 (0, 0)) := heap_setCell_same W8 _ 1 _ 63 _ hgs
            have hS9 : RecSt w A 64 c gr (14 + 10 * ((k + 1 : Nat) : Int)) (W8.setCell ⟨W6.heap.size, 1, none⟩ (.int .i64 x1)) :=
              ⟨(heap_set2 _ _ _ _ _ hgsres.symm).trans hS8.1, (heap_set2 _ _ _ _ _ hgsr.symm).trans hS8.2.1, hS8.2.2.setCell (by show w.heap.size ≤ W6.heap.size; exact HS6.out.2.2.size) _⟩
            have hgo9 : (W8.setCell ⟨W6.heap.size, 1, none⟩ (.int .i64 x1)).heap[go]? = some (.cells #[.int .u64 (genOf bs), v] 40 (0, 0)) := (heap_set2 _ _ _ _ _ hgsgo.symm).trans hgo8
            have hown9 : OwnSnaps (W8.setCell ⟨W6.heap.size, 1, none⟩ (.int .i64 x1)) w.heap.size v (snapsOf bs k) := Hown.out.step fun q hq hc => (heap_set2 _ _ _ _ _ (by omega)).trans (hk68 q hq (fun e => by
              obtain ⟨cells, hc⟩ := hc
              rw [e, HS.out.2.1] at hc
              injection hc with hc
              injection hc with _ e2 _
              revert e2; decide))
            have hfs := frozen_blk hgs 1
            have hws : wrap64 x1 = x1 := wrap64_of (by omega) (by omega)
            have hcs0 : W8.cell? ⟨W6.heap.size, 1, none⟩ = some (.int .i64 0) := cell_of_row W8 _ 1 _ _ _ hgs
            clear hk8 hk68 hgs hgo8 hS8 HS HS6 Hk6 hS7 Hgo Hown
            generalize hW9 : W8.setCell ⟨W6.heap.size, 1, none⟩ (.int .i64 x1) = W9 at hgs9 hS9 hgo9 hown9
            have hc0 : W9.cell? ⟨W6.heap.size, 0, none⟩ = some (.int .u64 x0) := cell_of_row W9 _ 0 _ _ _ hgs9
            have hc1 : W9.cell? ⟨W6.heap.size, 1, none⟩ = some (.int .i64 x1) := cell_of_row W9 _ 1 _ _ _ hgs9
            have hcg0 : W9.cell? ⟨go, 0, none⟩ = some (.int .u64 (genOf bs)) := cell_of_row W9 _ 0 _ _ _ hgo9
            have hcg1 : W9.cell? ⟨go, 1, none⟩ = some v := cell_of_row W9 _ 1 _ _ _ hgo9
            have HS9 := Lib.hid hS9
            have Hgo9 := Lib.hid hgo9
            have Hown9 := Lib.hid hown9
            have k5 : k ≤ 3 := Nat.le_of_lt_succ k4
            have hms : M - (k + 1) < M - k := Nat.sub_lt_sub_left hlt (Nat.lt_succ_self k)
            clear hS9 hgo9 hown9 hgs9 hgsr hgsgo hgsres hlt6 hx0 hx1 hx1r
            go_wp2_with (at_builtin; refine Kd.R_append (w0 := w) (W := W9) PRootReads.k63 w.heap.size rfl _ _ 38 63 _ 16 rfl Try.underlying38 info63 rfl (by decide) (by decide) v (snapsOf bs k) ⟨x0, x1⟩ [.int .u64 x0, .int .i64 x1] (fun _ => True) (fun _ => False) rfl rfl (PRootReads.k63_mkM _ _ _ _) (fun _ h => h.elim) (fun _ _ => trivial) Hown9.out HS9.out.2.2 HS9.out.2.2.size (by rw [snapsOf_length]; omega) ?_; intro v1 w1 hown1 hb1 hg1 _; obtain ⟨A1, c1, rfl⟩ := Kd.R_slice hown1; have hgo1 := blk_row Hgo9.out hg1 (Hown9.out.ne Hgo9.out (by decide)); have hf1 := frozen_blk hgo1 1; have hcc1 : w1.cell? ⟨go, 1, none⟩ = some v := cell_of_row w1 _ 1 _ _ _ hgo1)
            have hres1 := blk_row HS9.out.1 hg1 (Hown9.out.ne HS9.out.1 (by decide))
            have hgr1 := blk_row HS9.out.2.1 hg1 (Hown9.out.ne HS9.out.2.1 (by decide))
            go_roundw
            case rel =>
              refine ⟨k + 1, hlt, by first | rfl | rw [hnx], ⟨(heap_set2 _ _ _ _ _ hgone2.symm).trans hres1, (heap_set2 _ _ _ _ _ hgone.symm).trans hgr1, hb1.setCell (by show w.heap.size ≤ go; exact hgoge) _⟩, _, heap_setCell_same w1 go 1 _ 40 _ hgo1, ?_⟩
              rw [Hsn.out]
              rw [List.length_append] at hown1
              exact OwnSnaps.step hown1 fun q hq hc => heap_set2 _ _ _ _ _ (fun e => by
                obtain ⟨cells, hc⟩ := hc
                rw [e, hgo1] at hc
                injection hc with hc
                injection hc with _ e2 _
                revert e2; decide)
            case measure => first | exact hms | (rw [hnx]; exact hms)
          · obtain rfl : k = M := by omega
            have i1 : ¬ (k : Int) < (k : Int) := by omega
            have HS := Lib.hid hS
            have Hgo := Lib.hid hgo
            have Hown := Lib.hid hown
            clear hS hgo hown
            go_wp2_with fail
            go_loopw [] (fun W => ∃ j : Nat, 14 + 10 * k ≤ j ∧ j ≤ 60 ∧ (∀ i : Nat, 14 + 10 * k ≤ i → i < j → numTo bs (i : Int) 1 = 0) ∧ RecSt2 w A 64 c gr go bs k (j : Int) W) (fun W => 60 - atOf gr W)
            case atStart => exact ⟨14 + 10 * k, Nat.le_refl _, by omega, fun i h1 h2 => by omega, by rw [show ((14 + 10 * k : Nat) : Int) = 14 + 10 * (k : Int) by omega]; exact HS.out, _, Hgo.out, Hown.out⟩
            case round =>
              obtain ⟨j, hj1, hj2, hz, hS, v, hgo, hown⟩ := hrel
              clear HS Hgo Hown
              have hcr : wr.cell? ⟨gr, 1, none⟩ = some (.int .i64 (j : Int)) := cell_of_row wr _ 1 _ _ _ hS.2.1
              have hat := atOf_is hS
              rw [Int.toNat_natCast] at hat
              have HS := Lib.hid hS
              have Hgo := Lib.hid hgo
              have Hown := Lib.hid hown
              have Hz := Lib.hid hz
              clear hS hgo hown hz
              by_cases hjl : j < 60
              · have ij : (j : Int) < 60 := Int.ofNat_lt.2 hjl
                go_wp2_with fail
                refine (num_step HS.out hbs hgr hn (by omega) 1 (by omega) (by omega) 1 rfl ((j + 1 : Nat) : Int) (by omega)).mono ?_
                rintro e W6 ⟨rfl, hS6, hk6⟩
                have hgo6 := (hk6 go (blk_lt Hgo.out) hgone).trans Hgo.out
                have hown6 : OwnSnaps W6 w.heap.size v (snapsOf bs k) := Hown.out.step fun q hq hc => hk6 q hq (fun e => by
                  obtain ⟨cells, hc⟩ := hc
                  rw [e, HS.out.2.1] at hc
                  injection hc with hc
                  injection hc with _ e2 _
                  revert e2; decide)
                have HS6 := Lib.hid hS6
                have Hgo6 := Lib.hid hgo6
                have Hown6 := Lib.hid hown6
                clear hS6 hgo6 hown6 hk6
                by_cases h0 : numTo bs (j : Int) 1 = 0
                · rw [h0]
                  have hat6 := atOf_is HS6.out
                  rw [Int.toNat_natCast] at hat6
                  have hms : 60 - atOf gr W6 < 60 - atOf gr wr := by rw [hat6, hat]; omega
                  go_wp2_with fail
                  refine (must_yes _).mono ?_
                  rintro e w1 ⟨rfl, rfl⟩
                  go_wp2_with fail
                  go_roundw
                  case rel => exact ⟨j + 1, by omega, hjl, fun i h1 h2 => (by
                    rcases Nat.lt_or_ge i j with h | h
                    · exact Hz.out i h1 h
                    · obtain rfl : i = j := by omega
                      exact h0), HS6.out, v, Hgo6.out, Hown6.out⟩
                  case measure => exact hms
                · have hb0 : (numTo bs (j : Int) 1 == 0) = false := beq_eq_false_iff_ne.2 h0
                  go_wp2_with fail
                  refine (must_no _).mono ?_
                  rintro e w1 ⟨rfl, rfl⟩
                  go_wp2_with fail
                  exact ⟨rfl, HS6.out.2.2, .inr ⟨fun h => h0 (h.tail j (by rw [HM.out]; exact hj1) hjl), rfl⟩⟩
              · obtain rfl : j = 60 := by omega
                change wr.cell? ⟨gr, 1, none⟩ = some (.int .i64 60) at hcr
                have HS0 : RecSt w A 64 c gr 60 wr := HS.out
                have HSd : RecSt w A 64 c gr 60 wr.drew := ⟨HS0.1, HS0.2.1, HS0.2.2.drew⟩
                have HSd := Lib.hid HSd
                clear HS HS0
                obtain ⟨A', c', hv⟩ := Kd.R_slice Hown.out
                have hlen := snapsOf_length bs k
                rw [hlen] at hv
                subst hv
                have hs60 : (60 : Nat) ≤ 64 := by decide
                have hC : (4294967295 ^^^ crcTo (bs.take 60) 60) < 4294967296 := crc_lt hr
                have hsumI := fun h : recOk bs => h.sum
                generalize hCC : 4294967295 ^^^ crcTo (bs.take 60) 60 = C at hC hsumI
                generalize hX : numTo bs 60 4 = X at hsumI
                have hwC : IntKind.u64.wrap (C : Int) = (C : Int) := u64_of (by omega) (by omega)
                have HC := Lib.hid hCC
                have HX := Lib.hid hX
                have HI := Lib.hid hsumI
                clear hCC hX hsumI
                go_wp2_with fail
                refine wp_region_any (by kernel_rfl) ?_
                try (change wpAny _ _ _ _ _ _ _ (World.drew _))
                have i60c : (60 : Int) ≤ (c : Int) := Int.ofNat_le.2 (Nat.le_trans hs60 hnc)
                refine wpAny_take (i := 0) (v := ?_) rfl (by kernel_rfl) (by kernel_rfl) (by kernel_rfl) (fun _ _ _ h => h) (Or.inl ⟨by rfl, ?_⟩) ?_
                rotate_left 1
                · intro w
                  go_simp
                  try rfl
                refine wpAny_take (i := 2) (v := ?_) rfl (by kernel_rfl) (by kernel_rfl) (by kernel_rfl) (fun _ _ _ h => h) (Or.inl ⟨by rfl, ?_⟩) ?_
                rotate_left 1
                · intro w
                  go_simp
                  try rfl
                refine wpAny_take (i := 3) (v := ?_) rfl (by kernel_rfl) (by kernel_rfl) (by kernel_rfl) (fun _ _ _ h => h) (Or.inl ⟨by rfl, ?_⟩) ?_
                rotate_left 1
                · intro w
                  go_simp
                  try rfl
                refine wpAny_ready (rs := [1]) (by kernel_rfl) (by simp) ?_
                refine AllReady.cons rfl (fun K hK => ?_) AllReady.nil
                go_simp
                refine (num_step HSd.out hbs hgr hn (by omega) 4 (by omega) (by omega) 4 rfl 64 rfl).mono ?_
                rintro e W6 ⟨he, hS6, hk6⟩
                rw [HX.out] at he
                subst he
                dsimp only
                refine hK _ _ ?_
                clear hK K
                have hgo6 := (hk6 go (by simpa using blk_lt Hgo.out) hgone).trans Hgo.out
                have hown6 : OwnSnaps W6 w.heap.size (.slice A' k c') (snapsOf bs k) := Hown.out.step fun q hq hc => hk6 q (by simpa using hq) (fun e => by
                  obtain ⟨cells, hc⟩ := hc
                  have h2 : wr.heap[gr]? = _ := HSd.out.2.1
                  rw [e, h2] at hc
                  injection hc with hc
                  injection hc with _ e2 _
                  revert e2; decide)
                obtain ⟨-, hcc', hsn⟩ := Kd.R_reads' hown6
                rw [← hlen] at hcc'
                have hcg0 : W6.cell? ⟨go, 0, none⟩ = some (.int .u64 (genOf bs)) := cell_of_row W6 _ 0 _ _ _ hgo6
                have hcg1 : W6.cell? ⟨go, 1, none⟩ = some (.slice A' k c') := cell_of_row W6 _ 1 _ _ _ hgo6
                have HS6 := Lib.hid hS6
                have Hgo6 := Lib.hid hgo6
                have Hown6 := Lib.hid hown6
                have Hsn := Lib.hid hsn
                clear hS6 hgo6 hown6 hk6 hsn
                refine wpAny_ready (rs := [4]) (by kernel_rfl) (by simp) ?_
                refine AllReady.cons rfl (fun K hK => ?_) AllReady.nil
                go_simp
                refine (crc_any A 60 c (bs.take 60) w.heap.size W6 (BytesAt.take (hbs.below HS6.out.2.2) hs60) (by decide)).mono ?_
                rintro e W7 ⟨he, rfl⟩
                rw [HC.out] at he
                subst he
                dsimp only
                refine hK _ _ ?_
                clear hK K
                refine wpAny_take (i := 5) (v := ?_) rfl (by kernel_rfl) (by kernel_rfl) (by kernel_rfl) (fun _ _ _ h => h) (Or.inl ⟨by rfl, ?_⟩) ?_
                rotate_left 1
                · intro w
                  go_simp
                  try rfl
                by_cases hsum : X = (C : Int)
                · have hbq : (X == (C : Int)) = true := beq_iff_eq.2 hsum
                  refine wpAny_take (i := 6) (v := ?_) rfl (by kernel_rfl) (by kernel_rfl) (by kernel_rfl) (fun _ _ _ h => h) (Or.inl ⟨by rfl, ?_⟩) ?_
                  rotate_left 1
                  · intro w
                    go_simp
                    try rfl
                  refine wpAny_take (i := 7) (v := ?_) rfl (by kernel_rfl) (by kernel_rfl) (by kernel_rfl) (fun _ _ _ h => h) (Or.inl ⟨by rfl, ?_⟩) ?_
                  rotate_left 1
                  · intro w
                    go_simp
                    try rfl
                  refine wpAny_ready (rs := [8]) (by kernel_rfl) (by simp) ?_
                  refine AllReady.cons rfl (fun K hK => ?_) AllReady.nil
                  go_simp
                  refine hK _ _ ?_
                  clear hK K
                  refine wpAny_ready (rs := [9]) (by kernel_rfl) (by simp) ?_
                  refine AllReady.cons rfl (fun K hK => ?_) AllReady.nil
                  go_simp
                  have hfits := fits_any (genOf bs) A' c' (snapsOf bs k) W6 Hsn.out hcc' (by rw [hlen]; omega)
                  rw [hlen] at hfits
                  refine hfits.mono ?_
                  rintro e W8 ⟨rfl, hb8⟩
                  dsimp only
                  refine hK _ _ ?_
                  clear hK K
                  have hS8 : RecSt w A 64 c gr 64 W8 := ⟨blk_below HS6.out.1 hb8 (blk_lt HS6.out.1), blk_below HS6.out.2.1 hb8 (blk_lt HS6.out.2.1), HS6.out.2.2.trans (hb8.mono HS6.out.2.2.size)⟩
                  have hgo8 := blk_below Hgo6.out hb8 (blk_lt Hgo6.out)
                  have hsn8 : SnapsAt W8 A' (snapsOf bs k) := SnapsAt.below Hsn.out hb8
                  have hcg08 : W8.cell? ⟨go, 0, none⟩ = some (.int .u64 (genOf bs)) := cell_of_row W8 _ 0 _ _ _ hgo8
                  have hcg18 : W8.cell? ⟨go, 1, none⟩ = some (.slice A' k c') := cell_of_row W8 _ 1 _ _ _ hgo8
                  have hcr08 : W8.cell? ⟨w.heap.size, 0, none⟩ = some (.int .u64 0) := cell_of_row W8 _ 0 _ _ _ hS8.1
                  have hcr18 : W8.cell? ⟨w.heap.size, 1, none⟩ = some (.slice none 0 0) := cell_of_row W8 _ 1 _ _ _ hS8.1
                  have hf0 := frozen_blk hS8.1 0
                  have hf1 := frozen_blk hS8.1 1
                  have hown8 : OwnSnaps W8 w.heap.size (.slice A' k c') (snapsOf bs k) := OwnSnaps.step Hown6.out (fun q hq _ => hb8.block q hq)
                  have Hown8 := Lib.hid hown8
                  clear hown8
                  have HS8 := Lib.hid hS8
                  have Hsn8 := Lib.hid hsn8
                  clear hS8 hgo8 hsn8 hb8 hcg0 hcg1 hcr
                  by_cases hok : okRoot (genOf bs) (snapsOf bs k)
                  · rw [decide_eq_true hok]
                    refine wpAny_take (i := 10) (v := ?_) rfl (by kernel_rfl) (by kernel_rfl) (by kernel_rfl) (fun _ _ _ h => h) (Or.inl ⟨by rfl, ?_⟩) ?_
                    rotate_left 1
                    · intro w
                      go_simp
                      try rfl
                    refine wpAny_ready (rs := [11]) (by kernel_rfl) (by simp) ?_
                    refine AllReady.cons rfl (fun K hK => ?_) AllReady.nil
                    go_simp
                    refine (must_yes _).mono ?_
                    rintro e W9 ⟨rfl, rfl⟩
                    dsimp only
                    refine hK _ _ ?_
                    clear hK K
                    refine wpAny_done (by kernel_rfl) ?_ _
                    go_wp2_with fail
                    have hR : ((W8.setCell ⟨w.heap.size, 0, none⟩ (.int .u64 (genOf bs))).setCell ⟨w.heap.size, 1, none⟩ (.slice A' k c')).heap[w.heap.size]? = some (.cells #[.int .u64 (genOf bs), .slice A' k c'] 40 (0, 0)) :=
                      heap_setCell_same _ _ 1 _ 40 _ (heap_setCell_same W8 _ 0 _ 40 _ HS8.out.1)
                    have hbw : Below w.heap.size w ((W8.setCell ⟨w.heap.size, 0, none⟩ (.int .u64 (genOf bs))).setCell ⟨w.heap.size, 1, none⟩ (.slice A' k c')) := (HS8.out.2.2.setCell (by simp) _).setCell (by simp) _
                    have hsn9 : OwnSnaps ((W8.setCell ⟨w.heap.size, 0, none⟩ (.int .u64 (genOf bs))).setCell ⟨w.heap.size, 1, none⟩ (.slice A' k c')) w.heap.size (.slice A' k c') (snapsOf bs k) := by
                      have h10 : OwnSnaps ((W8.setCell ⟨w.heap.size, 0, none⟩ (.int .u64 (genOf bs))).setCell ⟨w.heap.size, 1, none⟩ (.slice A' k c')) w.heap.size (.slice A' k c') (snapsOf bs k) := OwnSnaps.step Hown8.out fun q hq hc => by
                        have hne : q ≠ w.heap.size := fun e => by
                          obtain ⟨cells, hc⟩ := hc
                          rw [e, HS8.out.1] at hc
                          injection hc with hc
                          injection hc with _ e2 _
                          revert e2; decide
                        exact (heap_set2 _ _ _ _ _ hne).trans (heap_set2 _ _ _ _ _ hne)
                      exact h10
                    have hres : recOk bs := ⟨hl, hmag, by rw [HM.out]; exact h4, fun i h1 h2 => Hz.out i (by rw [← HM.out]; exact h1) h2, by rw [HX.out, HC.out]; exact hsum, by rw [HM.out]; exact hok⟩
                    generalize (W8.setCell ⟨w.heap.size, 0, none⟩ (.int .u64 (genOf bs))).setCell ⟨w.heap.size, 1, none⟩ (.slice A' k c') = W10 at hR hbw hsn9 ⊢
                    have hc0 : W10.cell? ⟨w.heap.size, 0, none⟩ = some (.int .u64 (genOf bs)) := cell_of_row W10 _ 0 _ _ _ hR
                    have hc1 : W10.cell? ⟨w.heap.size, 1, none⟩ = some (.slice A' k c') := cell_of_row W10 _ 1 _ _ _ hR
                    rw [HM.out]
                    refine ⟨rfl, .agg #[.int .u64 (genOf bs), .slice A' k c'], by simp [results, Try.results46, go_sem, hc0, hc1], hbw, .inl ⟨hres, A', c', rfl, hsn9⟩⟩
                  · rw [decide_eq_false hok]
                    refine wpAny_take (i := 10) (v := ?_) rfl (by kernel_rfl) (by kernel_rfl) (by kernel_rfl) (fun _ _ _ h => h) (Or.inl ⟨by rfl, ?_⟩) ?_
                    rotate_left 1
                    · intro w
                      go_simp
                      try rfl
                    refine wpAny_ready (rs := [11]) (by kernel_rfl) (by simp) ?_
                    refine AllReady.cons rfl (fun K hK => ?_) AllReady.nil
                    go_simp
                    refine (must_no _).mono ?_
                    rintro e W9 ⟨rfl, rfl⟩
                    dsimp only
                    go_wp2_with fail
                    exact ⟨rfl, HS8.out.2.2, .inr ⟨fun h => hok (by have h2 := h.ok; rw [HM.out] at h2; exact h2), rfl⟩⟩
                · have hbq : (X == (C : Int)) = false := beq_eq_false_iff_ne.2 hsum
                  refine wpAny_take (i := 6) (v := ?_) rfl (by kernel_rfl) (by kernel_rfl) (by kernel_rfl) (fun _ _ _ h => h) (Or.inl ⟨by rfl, ?_⟩) ?_
                  rotate_left 1
                  · intro w
                    go_simp
                    try rfl
                  refine wpAny_take (i := 7) (v := ?_) rfl (by kernel_rfl) (by kernel_rfl) (by kernel_rfl) (fun _ _ _ h => h) (Or.inl ⟨by rfl, ?_⟩) ?_
                  rotate_left 1
                  · intro w
                    go_simp
                    try rfl
                  refine wpAny_ready (rs := [8]) (by kernel_rfl) (by simp) ?_
                  refine AllReady.cons rfl (fun K hK => ?_) AllReady.nil
                  go_simp
                  refine hK _ _ ?_
                  clear hK K
                  refine wpAny_ready (rs := [9]) (by kernel_rfl) (by simp) ?_
                  refine AllReady.cons rfl (fun K hK => ?_) AllReady.nil
                  go_simp
                  refine hK _ _ ?_
                  clear hK K
                  refine wpAny_take (i := 10) (v := ?_) rfl (by kernel_rfl) (by kernel_rfl) (by kernel_rfl) (fun _ _ _ h => h) (Or.inl ⟨by rfl, ?_⟩) ?_
                  rotate_left 1
                  · intro w
                    go_simp
                    try rfl
                  refine wpAny_ready (rs := [11]) (by kernel_rfl) (by simp) ?_
                  refine AllReady.cons rfl (fun K hK => ?_) AllReady.nil
                  go_simp
                  refine (must_no _).mono ?_
                  rintro e W9 ⟨rfl, rfl⟩
                  dsimp only
                  go_wp2_with fail
                  exact ⟨rfl, HS6.out.2.2, .inr ⟨fun h => hsum (HI.out h), rfl⟩⟩
      · have h4i : ¬ (M : Int) ≤ 4 := fun h => h4 (Int.ofNat_le.1 h)
        have hd1 : decide ((M : Int) ≤ 4) = false := decide_eq_false h4i
        have hd2 : decide (M ≤ 4) = false := decide_eq_false h4
        go_wp2_with fail
        refine (must_no _).mono ?_
        rintro e w1 ⟨rfl, rfl⟩
        go_wp2_with fail
        exact ⟨rfl, HS5.out.2.2, .inr ⟨fun h => h4 (by rw [← HM.out]; exact h.many), rfl⟩⟩
    · rw [show (numTo bs 0 4 == 1280459075) = false from beq_eq_false_iff_ne.2 hmag]
      refine (must_no _).mono ?_
      rintro e w1 ⟨rfl, rfl⟩
      go_wp2_with fail
      exact ⟨rfl, HS2.out.2.2, .inr ⟨fun h => hmag h.magic, rfl⟩⟩
  · rw [show ((n : Int) == 64) = false from beq_eq_false_iff_ne.2 (by omega)]
    refine (must_no _).mono ?_
    rintro e w1 ⟨rfl, rfl⟩
    have hA : Below w.heap.size w (w.alloc (.cells #[.int .u64 0, .slice none 0 0] 40)) := (Below.refl _ _).alloc (Nat.le_refl _) _
    go_wp2_with fail
    exact ⟨rfl, hA, .inr ⟨fun h => h64 (by rw [← hl]; exact h.len), rfl⟩⟩
end Go.Proofs.Ytghpnhiliihlaaa.Root
