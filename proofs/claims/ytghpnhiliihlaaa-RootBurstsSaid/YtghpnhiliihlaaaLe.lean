/-
  le.Num, le.PutNum, their references, and what they lean on: each contract says what the Go text computes, in the words of lists and numbers. No condition but that numbers fit their kinds.
-/
import Derived.Test.YtghpnhiliihlaaaArr
import Derived.SizedLaws
import Derived.Shelf.Abstract
import Derived.Laws.BytesArg
namespace Go.Proofs.Ytghpnhiliihlaaa
set_option linter.unusedVariables false
set_option linter.unusedSimpArgs false
open Go.RowKit

/-- The slice value '.slice A n c' holds the bytes bs, in a block below B. -/
def BytesAt (w : World) (B : Nat) (A : Option Addr) (n : Nat) (bs : List Int) : Prop :=
  bs.length = n ∧ (∀ x ∈ bs, 0 ≤ x ∧ x < 256) ∧ (0 < n → ∃ b off, A = some ⟨b, off, none⟩ ∧ b < B ∧ ∀ i, i < n → w.cell? ⟨b, off + i, none⟩ = some (.int .u8 (bs[i]?.getD 0)))
theorem BytesAt.keep {w w' : World} {B : Nat} {A : Option Addr} {n : Nat} {bs : List Int} (h : BytesAt w B A n bs) (hk : ∀ p : Addr, p.block < B → w'.cell? p = w.cell? p) : BytesAt w' B A n bs :=
  ⟨h.1, h.2.1, fun hn => by
    obtain ⟨b, off, e, hb, hc⟩ := h.2.2 hn
    exact ⟨b, off, e, hb, fun i hi => (hk _ hb).trans (hc i hi)⟩⟩
theorem BytesAt.below {w w' : World} {B : Nat} {A : Option Addr} {n : Nat} {bs : List Int} (h : BytesAt w B A n bs) (hb : Below B w w') : BytesAt w' B A n bs := h.keep fun _ hp => hb.cell hp
theorem BytesAt.more {w : World} {B B' : Nat} {A : Option Addr} {n : Nat} {bs : List Int} (h : BytesAt w B A n bs) (hB : B ≤ B') : BytesAt w B' A n bs :=
  ⟨h.1, h.2.1, fun hn => by
    obtain ⟨b, off, e, hb, hc⟩ := h.2.2 hn
    exact ⟨b, off, e, by omega, hc⟩⟩
theorem BytesAt.range {w : World} {B : Nat} {A : Option Addr} {n : Nat} {bs : List Int} (h : BytesAt w B A n bs) (i : Nat) : 0 ≤ bs[i]?.getD 0 ∧ bs[i]?.getD 0 < 256 := by
  cases hx : bs[i]? with
  | none => simp
  | some x => exact h.2.1 x (List.mem_of_getElem? hx)

/-- How many rounds. -/
def rounds8 (size : Int) : Nat := (min (max size 0) 8).toNat
theorem rounds8_le (size : Int) : rounds8 size ≤ 8 := by unfold rounds8; omega
/-- A byte, laid at place k of a number. -/
def orByte (acc x : Int) (k : Nat) : Int := bits BinOp.or IntKind.u64 acc (IntKind.u64.wrap (IntKind.u64.wrap x * 2 ^ (8 * k)))
/-- The number of the first m bytes from a on that fall inside. -/
def numTo (bs : List Int) (a : Int) : Nat → Int
  | 0 => 0
  | m + 1 => if 0 ≤ a + m ∧ a + m < bs.length then orByte (numTo bs a m) (bs[(a + m).toNat]?.getD 0) m else numTo bs a m
theorem numTo_yes {bs : List Int} {a : Int} {m i : Nat} (hi : a + m = i) (h : i < bs.length) : numTo bs a (m + 1) = orByte (numTo bs a m) (bs[i]?.getD 0) m := by
  rw [numTo, if_pos (by omega), hi, Int.toNat_natCast]
theorem numTo_no {bs : List Int} {a : Int} {m : Nat} (h : ¬ (0 ≤ a + m ∧ a + m < bs.length)) : numTo bs a (m + 1) = numTo bs a m := by
  rw [numTo, if_neg h]

set_option maxHeartbeats 400000 in
theorem num1_any (i : Nat) (k : Nat) (A : Option Addr) (n c : Nat) (p q : Nat) (acc : Int) (bs : List Int) (B : Nat) (w : World) (hbs : BytesAt w B A n bs) (h1 : i < n) (hk : k < 8) (hn : n ≤ 9223372036854775807)
    (hp : w.cell? ⟨p, 0, none⟩ = some (.int .u64 acc)) (hpf : w.frozen? ⟨p, 0, none⟩ = false) (hq : w.cell? ⟨q, 0, none⟩ = some (.slice A n c)) :
    Calls Try.prog 40 #[.int .i64 i, .int .i64 k, .pointer (some ⟨p, 0, none⟩), .pointer (some ⟨q, 0, none⟩)] w fun e w' => e = .returned (.tuple #[]) ∧ (w.setCell ⟨p, 0, none⟩ (.int .u64 (orByte acc (bs[i]?.getD 0) k))).drew = w' := by
  obtain ⟨hlen, hrng, hc⟩ := hbs
  obtain ⟨b, off, rfl, hb, hc⟩ := hc (by omega)
  have hci := hc i (by omega)
  clear hc hrng
  generalize bs[i]?.getD 0 = x at hci
  have e8 : (8 * (k : Int)).toNat = 8 * k := by omega
  go_enter Try.func40, Try.ntmps40
  go_wp2
  go_region
  all_goals (go_end0; exact ⟨rfl, rfl⟩)

theorem wrap64_of {z : Int} (h0 : -9223372036854775808 ≤ z) (h1 : z ≤ 9223372036854775807) : wrap64 z = z := IntWalk.wrap64_in z ⟨h0, h1⟩

set_option maxHeartbeats 400000 in
/-- 'each': what is done at every place that falls inside, in order. -/
theorem each_any (g : Nat) (cap : Array Value) (hent : ∀ args w, (callFunc g args).run Try.prog w = .ok (.enter g args) w) (A : Option Addr) (n c : Nat) (a size : Int) (hn : n ≤ 140737488351232) (ha0 : -9223372036854775808 ≤ a) (ha1 : a ≤ 9223372036854775807)
    (J : Nat → World → Prop) (w : World) (h0 : J 0 w)
    (hdo : ∀ (k i : Nat) (W : World), k < rounds8 size → a + k = i → i < n → J k W → Calls Try.prog g (#[.int .i64 i, .int .i64 k] ++ cap) W fun e W' => e = .returned (.tuple #[]) ∧ J (k + 1) W')
    (hno : ∀ (k : Nat) (W : World), k < rounds8 size → ¬ (0 ≤ a + k ∧ a + k < n) → J k W → J (k + 1) W) :
    Calls Try.prog 39 #[.slice A n c, .int .i64 a, .int .i64 size, .func (.func g) #[] cap] w fun e W => e = .returned (.tuple #[]) ∧ J (rounds8 size) W := by
  have hr : (rounds8 size : Int) = min (max size 0) 8 := by unfold rounds8; omega
  have hr8 := rounds8_le size
  generalize rounds8 size = m at hr hr8 hdo hno ⊢
  have Hdo := Lib.hid hdo
  have Hno := Lib.hid hno
  clear hdo hno
  have hs : size < 0 ∧ (m : Int) ≤ 0 ∨ 0 ≤ size ∧ size ≤ 8 ∧ (m : Int) ≤ size ∧ size ≤ m ∨ 8 < size ∧ 8 ≤ (m : Int) := by omega
  clear hr
  rcases hs with ⟨s0, s1⟩ | ⟨s0, s1, s2, s3⟩ | ⟨s0, s1⟩
  · obtain rfl : m = 0 := by omega
    go_enter Try.func39, Try.ntmps39
    go_wp2
    go_loopw [13] (fun i wr => i = .int .i64 0 ∧ J 0 wr) (fun _ _ => 0)
    case atStart => exact ⟨rfl, h0⟩
    case round =>
      obtain ⟨rfl, hJ⟩ := hrel
      go_wp2_with fail
      go_end0
      exact ⟨rfl, hJ⟩
  all_goals
    go_enter Try.func39, Try.ntmps39
    go_wp2
    go_loopw [13] (fun i wr => ∃ k : Nat, k ≤ m ∧ i = .int .i64 k ∧ J k wr) (fun i _ => m - (intOf i).toNat)
    case atStart => exact ⟨0, Nat.zero_le _, rfl, h0⟩
    case round =>
      obtain ⟨k, hk, rfl, hJ⟩ := hrel
      by_cases hlt : k < m
      · by_cases c1 : a < n
        · have hw : wrap64 (a + k) = a + k := wrap64_of (by omega) (by omega)
          have hwl : a + k ≤ 9223372036854775807 := by omega
          have hwg : -9223372036854775808 ≤ a + k := by omega
          by_cases c2 : 0 ≤ a + k
          · obtain ⟨i, hi⟩ := Int.eq_ofNat_of_zero_le c2
            by_cases c3 : a + k < n
            · have hc := Hdo.out k i wr hlt hi (by omega) hJ
              rw [← hi] at hc
              have Hc := Lib.hid hc
              have Hi := Lib.hid hi
              clear hc hi hw
              go_wp2_with fail
              refine Hc.out.mono ?_
              rintro e w1 ⟨rfl, hJ1⟩
              go_wp2_with fail
              go_roundw
              case rel => exact ⟨k + 1, by omega, by go_num, hJ1⟩
              case measure => simp [intOf]; omega
            · have hJ1 := Hno.out k wr hlt (by omega) hJ
              have Hi := Lib.hid hi
              clear hi hw
              go_wp2_with fail
              go_roundw
              case rel => exact ⟨k + 1, by omega, by go_num, hJ1⟩
              case measure => simp [intOf]; omega
          · have hJ1 := Hno.out k wr hlt (by omega) hJ
            clear hw
            go_wp2_with fail
            go_roundw
            case rel => exact ⟨k + 1, by omega, by go_num, hJ1⟩
            case measure => simp [intOf]; omega
        · have hJ1 := Hno.out k wr hlt (by omega) hJ
          go_wp2_with fail
          go_roundw
          case rel => exact ⟨k + 1, by omega, by go_num, hJ1⟩
          case measure => simp [intOf]; omega
      · have hkm : k = m := by omega
        subst hkm
        go_wp2_with fail
        go_end0
        exact ⟨rfl, hJ⟩

/-- le.Num$1 and le.PutNum$1 are entered when they are called. -/
theorem ent_num1 (args : Array Value) (w : World) : (callFunc 40 args).run Try.prog w = .ok (.enter 40 args) w := enters_of Try.func40 (by kernel_rfl) rfl args w

set_option maxHeartbeats 400000 in
theorem num_any (A : Option Addr) (n c : Nat) (bs : List Int) (a size : Int) (hn : n ≤ 140737488351232) (ha0 : -9223372036854775808 ≤ a) (ha1 : a ≤ 9223372036854775807) (w : World) (hbs : BytesAt w w.heap.size A n bs) :
    Calls Try.prog 21 #[.slice A n c, .int .i64 a, .int .i64 size] w fun e w' => e = .returned (.int .u64 (numTo bs a (rounds8 size))) ∧ Below w.heap.size w w' := by
  go_enter Try.func21, Try.ntmps21
  go_wp2_with fail
  have hb0 : Below w.heap.size w ((w.alloc (.cells #[.slice A n c] 22)).alloc (.cells #[.int .u64 0] 31)) := ((Below.refl _ _).alloc (Nat.le_refl _) _).alloc (by simp) _
  refine (each_any 40 _ ent_num1 A n c a size hn ha0 ha1
    (fun k W => W.heap[w.heap.size]? = some (.cells #[.slice A n c] 22 (0, 0)) ∧ W.heap[w.heap.size + 1]? = some (.cells #[.int .u64 (numTo bs a k)] 31 (0, 0)) ∧ Below w.heap.size w W) _
    ⟨heap_alloc2_old _ _ _, heap_alloc2_new _ _ _, hb0⟩ ?_ ?_).mono ?_
  · rintro k i W hk hi hin ⟨h1, h2, hb⟩
    refine (num1_any i k A n c (w.heap.size + 1) w.heap.size _ bs _ W (hbs.below hb) hin (by have := rounds8_le size; omega) (by omega) (cell_one h2) (frozen_blk h2 0) (cell_one h1)).mono ?_
    rintro e w1 ⟨rfl, rfl⟩
    refine ⟨rfl, blk_far (w := W) h1 (by simp) _, ?_, (hb.setCell (by simp) _).drew⟩
    rw [numTo_yes hi (by rw [hbs.1]; exact hin)]
    exact heap_setCell_same W (w.heap.size + 1) 0 _ _ _ h2
  · rintro k W hk hni ⟨h1, h2, hb⟩
    exact ⟨h1, by rw [numTo_no (by rw [hbs.1]; exact hni)]; exact h2, hb⟩
  · rintro e w1 ⟨rfl, h1, h2, hb⟩
    have hc := cell_one h2
    go_wp2_with fail
    go_ret
    exact ⟨rfl, hb⟩

/-! ### Bytes that the call itself made -/
/-- The slice value v owns the bytes bs, in a block from base on. -/
def OwnBytes (w : World) (base : Nat) (v : Value) (bs : List Int) : Prop := w.ownsRow base 5 1 v bs.length (bs.map (Value.int .u8))
theorem OwnBytes.form {w : World} {base : Nat} {v : Value} {bs : List Int} (h : OwnBytes w base v bs) : ∃ A c, v = .slice A bs.length c := by
  rcases h.2 with ⟨rfl, h0⟩ | ⟨g, cap, cur, rfl, _⟩
  · exact ⟨none, 0, by rw [h0]⟩
  · exact ⟨_, cap, rfl⟩
theorem OwnBytes.some {w : World} {base : Nat} {A : Option Addr} {n c : Nat} {bs : List Int} (h : OwnBytes w base (.slice A n c) bs) (hn : 0 < n) :
    ∃ g cur, A = some ⟨g, 0, none⟩ ∧ n = bs.length ∧ base ≤ g ∧ w.heap[g]? = some (.cells cur 5 (0, 0)) ∧ bs.length ≤ c ∧ cur.size = c ∧ cur.toList.take bs.length = bs.map (Value.int .u8) := by
  rcases h.2 with ⟨e, h0⟩ | ⟨g, cap, cur, e, h1, h2, h3, h4, h5, h6⟩
  · injection e with _ e2 _; omega
  · injection e with e1 e2 e3
    subst e1; subst e3
    exact ⟨g, cur, rfl, e2, h1, h2, h3, by simpa using h5, by simpa using h6⟩
theorem OwnBytes.at_ {w : World} {base : Nat} {A : Option Addr} {n c : Nat} {bs : List Int} (h : OwnBytes w base (.slice A n c) bs) (hr : ∀ x ∈ bs, 0 ≤ x ∧ x < 256) : BytesAt w w.heap.size A n bs := by
  have hn : n = bs.length := by
    obtain ⟨A', c', e⟩ := h.form
    injection e
  refine ⟨hn.symm, hr, fun h0 => ?_⟩
  obtain ⟨g, cur, rfl, -, _, h2, h3, h5, h6⟩ := h.some h0
  refine ⟨g, 0, rfl, blk_lt h2, fun i hi => ?_⟩
  rw [Nat.zero_add, cell_of_row w g i cur _ (0, 0) h2]
  have h7 : (cur.toList.take bs.length)[i]? = (bs.map (Value.int .u8))[i]? := by rw [h6]
  rw [List.getElem?_take_of_lt (by omega), List.getElem?_map] at h7
  rw [← Array.getElem?_toList, h7]
  simp [show i < bs.length by omega]
theorem OwnBytes.kept {w w' : World} {base : Nat} {v : Value} {bs : List Int} (h : OwnBytes w base v bs) {row : Option Nat} (hg : w.grownBy w' row) (hne : v.ownBlock = none ∨ v.ownBlock ≠ row) : OwnBytes w' base v bs := World.ownsRow.kept h hg hne
theorem OwnBytes.alloc {w : World} {base : Nat} {v : Value} {bs : List Int} (h : OwnBytes w base v bs) (o : Obj) : OwnBytes (w.alloc o) base v bs := World.ownsRow.alloc h o
theorem OwnBytes.drew {w : World} {base : Nat} {v : Value} {bs : List Int} (h : OwnBytes w base v bs) : OwnBytes w.drew base v bs := h
theorem OwnBytes.blk {w w' : World} {base : Nat} {v : Value} {bs : List Int} (h : OwnBytes w base v bs) (hk : ∀ g cur, w.heap[g]? = .some (.cells cur 5 (0, 0)) → v.ownBlock = .some g → w'.heap[g]? = w.heap[g]?) : OwnBytes w' base v bs := by
  refine ⟨h.1, ?_⟩
  rcases h.2 with h0 | ⟨g, cap, cur, rfl, h1, h2, h3⟩
  · exact .inl h0
  · exact .inr ⟨g, cap, cur, rfl, h1, (hk g cur h2 rfl).trans h2, h3⟩
theorem OwnBytes.set_ {w : World} {base : Nat} {A : Option Addr} {n c : Nat} {bs : List Int} (h : OwnBytes w base (.slice A n c) bs) {g : Nat} (hA : A = .some ⟨g, 0, none⟩) (i : Nat) (hi : i < n) (x : Int) :
    OwnBytes (w.setCell ⟨g, i, none⟩ (.int .u8 x)) base (.slice A n c) (bs.set i x) := by
  obtain ⟨g', cur, e, hn, h1, h2, h3, h5, h6⟩ := h.some (by omega)
  rw [hA] at e
  injection e with e
  injection e with e
  subst e
  subst hA
  unfold OwnBytes
  refine ⟨by simp, .inr ⟨g, c, cur.setIfInBounds i (.int .u8 x), by rw [hn]; simp, h1, heap_setCell_same w g i cur _ _ h2, by simpa using h3, ?_, by simpa using h5, ?_⟩⟩
  · rcases h.2 with ⟨e, _⟩ | ⟨g', cap, cur', e, _, _, _, h7, _⟩
    · cases e
    · injection e with _ _ e; subst e; exact h7
  · have h7 : (cur.setIfInBounds i (Value.int .u8 x)).toList = cur.toList.set i (.int .u8 x) := by simp
    rw [h7, List.map_set, Nat.mul_one, List.length_set, List.take_set, h6]
theorem infoU8 : (Try.prog.info? 5).map (fun i => (i.zero, i.size, i.bytes)) = some (some (.int .u8 0), 1, 1) := by kernel_rfl

/-- append(v, x...) onto bytes of the call's own, the source nil or not. -/
theorem wpL_app {ops : Array Oper} {rest : List Oper} {o : Oper} {a : Act} {w : World} {Q : Exit → Act → World → Prop} (hw : Region.wanted o (yielded ops a.tmps) = true) (s x : Operand)
    (ho : o.op = .call { callee := .builtin .append, args := #[s, x], argTypes := #[22, 22] })
    (base : Nat) (v : Value) (bs : List Int) (hs : a.eval s = v) (hown : OwnBytes w base v bs)
    (B : Nat) (A : Option Addr) (m c : Nat) (cs : List Int) (hx : a.eval x = .slice A m c) (hr : BytesAt w B A m cs) (hsum : bs.length + m ≤ 140737488355328) (hbase : base ≤ w.heap.size)
    (h : ∀ A' c' w', OwnBytes w' base (.slice A' (bs ++ cs).length c') (bs ++ cs) → w.grownBy w' v.ownBlock → ((Value.slice A' (bs ++ cs).length c').ownBlock = v.ownBlock ∨ (Value.slice A' (bs ++ cs).length c').ownBlock = some w.heap.size) → wpList Try.prog ops Q rest (a.put o.dst (.slice A' (bs ++ cs).length c')) w') :
    wpList Try.prog ops Q (o :: rest) a w := by
  obtain ⟨i0, hi, hz0, hz1, hz2⟩ := info_parts infoU8
  refine BigFrame.wpList_want hw fun K hK => ?_
  have key : ∃ v' w', (Builtin.append_ #[22, 22] o.type #[v, .slice A m c]).run Try.prog w = .ok v' w' ∧ OwnBytes w' base v' (bs ++ cs) ∧ w.grownBy w' v.ownBlock ∧ (v'.ownBlock = v.ownBlock ∨ v'.ownBlock = some w.heap.size) := by
    rcases Nat.eq_zero_or_pos m with h0 | h0
    · subst h0
      have hcs : cs = [] := List.eq_nil_of_length_eq_zero hr.1
      subst hcs
      rw [List.append_nil]
      refine ⟨v, w, ?_, hown, World.grownBy.refl w _, .inl rfl⟩
      rcases hown.2 with ⟨rfl, h1⟩ | ⟨g, cap, cur, rfl, _, _, hnc, _⟩
      · cases A <;> simp [Builtin.append_, run_underlying Try.underlying22, sizeOf, typeInfo, hi, hz1, Builtin.lenOf, Builtin.firstCells, loadCells, loadCellsFrom, storeCells]
      · cases A <;> simp [Builtin.append_, run_underlying Try.underlying22, sizeOf, typeInfo, hi, hz1, Builtin.lenOf, Builtin.firstCells, hnc, loadCells, loadCellsFrom, storeCells]
    · obtain ⟨b, off, rfl, hb, hc⟩ := hr.2.2 h0
      obtain ⟨v', w', hrun, h2, h3, _, h5⟩ := run_append_own_at (P := Try.prog) w base 22 o.type 5 i0 (.int .u8 0) 1 1 Try.underlying22 hi hz0 hz1 hz2 rfl (by decide) v bs.length (bs.map (Value.int .u8)) hown ⟨b, off, none⟩ m c (cs.map (Value.int .u8)) (by simp [hr.1])
        (fun j u hj => by
          have hjm : j < m := by rw [← hr.1]; have := (List.getElem?_eq_some_iff.1 hj).1; simpa using this
          rw [Addr.add_mid, hc j hjm]
          rw [List.getElem?_map] at hj
          have hjc : j < cs.length := by rw [hr.1]; exact hjm
          rw [List.getElem?_eq_getElem hjc] at hj ⊢
          exact hj)
        (fun u hu => by simp at hu; obtain ⟨x, _, rfl⟩ := hu; rfl) (by unfold maxLen; omega) (by omega) hbase
      refine ⟨v', w', hrun, ?_, h3, h5⟩
      unfold OwnBytes
      rw [List.length_append, hr.1, List.map_append]
      exact h2
  obtain ⟨v', w', hrun, h2, h3, h5⟩ := key
  obtain ⟨A', c', rfl⟩ := h2.form
  unfold Oper.wp execOp
  simp only [ho, resolve, invoke, builtin, Sem.run_bind, Sem.run_pure, Result.andThen_ok, List.map_toArray, List.map_cons, List.map_nil, hs, hx, hrun]
  exact hK _ _ (h A' c' w' h2 h3 h5)

/-! ### le.PutNum -/
/-- The byte at place k of a number. -/
def byteOf (z : Int) (k : Nat) : Int := IntKind.u8.wrap (z / 2 ^ (8 * k))
def putTo (bs : List Int) (a z : Int) : Nat → List Int
  | 0 => bs
  | m + 1 => if 0 ≤ a + m ∧ a + m < bs.length then (putTo bs a z m).set (a + m).toNat (byteOf z m) else putTo bs a z m
theorem putTo_yes {bs : List Int} {a z : Int} {m i : Nat} (hi : a + m = i) (h : i < bs.length) : putTo bs a z (m + 1) = (putTo bs a z m).set i (byteOf z m) := by
  rw [putTo, if_pos (by omega), hi, Int.toNat_natCast]
theorem putTo_no {bs : List Int} {a z : Int} {m : Nat} (h : ¬ (0 ≤ a + m ∧ a + m < bs.length)) : putTo bs a z (m + 1) = putTo bs a z m := by
  rw [putTo, if_neg h]
theorem putTo_length (bs : List Int) (a z : Int) : ∀ m, (putTo bs a z m).length = bs.length
  | 0 => rfl
  | m + 1 => by rw [putTo]; split <;> simp [putTo_length bs a z m]

set_option maxHeartbeats 400000 in
theorem put1_any (i : Nat) (k : Nat) (b n c : Nat) (p q : Nat) (z old : Int) (w : World) (h1 : i < n) (hk : k < 8) (hn : n ≤ 9223372036854775807)
    (hp : w.cell? ⟨p, 0, none⟩ = some (.int .u64 z)) (hq : w.cell? ⟨q, 0, none⟩ = some (.slice (some ⟨b, 0, none⟩) n c)) (hc : w.cell? ⟨b, i, none⟩ = some (.int .u8 old)) (hf : w.frozen? ⟨b, i, none⟩ = false) :
    Calls Try.prog 41 #[.int .i64 i, .int .i64 k, .pointer (some ⟨p, 0, none⟩), .pointer (some ⟨q, 0, none⟩)] w fun e w' => e = .returned (.tuple #[]) ∧ (w.setCell ⟨b, i, none⟩ (.int .u8 (byteOf z k))).drew = w' := by
  have e8 : (8 * (k : Int)).toNat = 8 * k := by omega
  go_enter Try.func41, Try.ntmps41
  go_wp2
  go_region
  all_goals (go_end0; exact ⟨rfl, rfl⟩)
theorem ent_put1 (args : Array Value) (w : World) : (callFunc 41 args).run Try.prog w = .ok (.enter 41 args) w := enters_of Try.func41 (by kernel_rfl) rfl args w

set_option maxHeartbeats 400000 in
theorem putNum_any (A : Option Addr) (n c : Nat) (bs : List Int) (a size z : Int) (hn : n ≤ 140737488351232) (ha0 : -9223372036854775808 ≤ a) (ha1 : a ≤ 9223372036854775807) (w : World) (hbs : BytesAt w w.heap.size A n bs) :
    Calls Try.prog 23 #[.slice A n c, .int .i64 a, .int .i64 size, .int .u64 z] w fun e w' =>
      (∃ A' c', e = .returned (.slice A' n c') ∧ OwnBytes w' w.heap.size (.slice A' n c') (putTo bs a z (rounds8 size))) ∧ Below w.heap.size w w' := by
  go_enter Try.func23, Try.ntmps23
  go_wp2_with (at_builtin; refine wpL_app rfl _ _ rfl w.heap.size (.slice none 0 0) [] rfl (World.ownsRow_nil _ _ _ _) w.heap.size A n c bs rfl (hbs.below ((Below.refl _ _).alloc (Nat.le_refl _) _)) (by simp; omega) (by simp) ?_; intro A' c' w1 hown hg hrow)
  rw [List.nil_append] at hown hrow
  obtain rfl : bs.length = n := hbs.1
  have hb1 : Below w.heap.size w w1 := ((Below.refl _ _).alloc (Nat.le_refl _) _).grown hg (by simp) (fun k e => by cases e)
  have hz1 : w1.heap[w.heap.size]? = some (.cells #[.int .u64 z] 31 (0, 0)) := blk_row (heap_alloc_new _ _) hg (by simp [Value.ownBlock])
  have hlt := blk_lt hz1
  refine (each_any 41 _ ent_put1 A bs.length c a size hn ha0 ha1
    (fun k W => OwnBytes W w.heap.size (.slice A' bs.length c') (putTo bs a z k) ∧ W.heap[w.heap.size]? = some (.cells #[.int .u64 z] 31 (0, 0)) ∧ W.heap[w1.heap.size]? = some (.cells #[.slice A' bs.length c'] 22 (0, 0)) ∧ Below w.heap.size w W) _
    ⟨hown.alloc _, blk_alloc hz1 _, heap_alloc_new _ _, hb1.alloc hb1.size _⟩ ?_ ?_).mono ?_
  · rintro k i W hk hi hin ⟨h0, h1, h2, hb⟩
    obtain ⟨g, cur, rfl, _, hge, hcur, hc1, hc2, hc3⟩ := h0.some (by omega)
    have hne1 : w.heap.size ≠ g := fun e => by rw [← e, h1] at hcur; injection hcur with hcur; injection hcur with _ e2 _; revert e2; decide
    have hne2 : w1.heap.size ≠ g := fun e => by rw [← e, h2] at hcur; injection hcur with hcur; injection hcur with _ e2 _; revert e2; decide
    have hcell : W.cell? ⟨g, i, none⟩ = some (.int .u8 ((putTo bs a z k)[i]?.getD 0)) := by
      have h7 : (cur.toList.take (putTo bs a z k).length)[i]? = ((putTo bs a z k).map (Value.int .u8))[i]? := by rw [hc3]
      have hik : i < (putTo bs a z k).length := by rw [putTo_length]; exact hin
      rw [List.getElem?_take_of_lt hik, List.getElem?_map, List.getElem?_eq_getElem hik] at h7
      rw [cell_of_row W g i cur _ (0, 0) hcur, ← Array.getElem?_toList, h7, List.getElem?_eq_getElem hik]
      rfl
    refine (put1_any i k g bs.length c' w.heap.size w1.heap.size z _ W hin (by have := rounds8_le size; omega) (by omega) (cell_one h1) (cell_one h2) hcell (frozen_blk hcur i)).mono ?_
    rintro e w2 ⟨rfl, rfl⟩
    refine ⟨rfl, ?_, blk_far (w := W) h1 (by simpa using hne1) _, blk_far (w := W) h2 (by simpa using hne2) _, (hb.setCell (by simpa using hge) _).drew⟩
    rw [putTo_yes hi hin]
    exact (h0.set_ rfl i hin _).drew
  · rintro k W hk hni ⟨h0, h1, h2, hb⟩
    exact ⟨by rw [putTo_no hni]; exact h0, h1, h2, hb⟩
  · rintro e w2 ⟨rfl, h0, h1, h2, hb⟩
    have hc := cell_one h2
    go_wp2_with fail
    go_ret
    exact ⟨⟨_, _, rfl, h0⟩, hb⟩

set_option maxHeartbeats 400000 in
theorem rnum_any (A : Option Addr) (n c : Nat) (bs : List Int) (a size : Int) (hn : n ≤ 140737488351232) (ha0 : -9223372036854775808 ≤ a) (ha1 : a ≤ 9223372036854775807) (w : World) (hbs : BytesAt w w.heap.size A n bs) :
    Calls Try.prog 22 #[.slice A n c, .int .i64 a, .int .i64 size] w fun e w' => e = .returned (.int .u64 (numTo bs a (rounds8 size))) ∧ w = w' := by
  have hr : (rounds8 size : Int) = min (max size 0) 8 := by unfold rounds8; omega
  have hr8 := rounds8_le size
  generalize rounds8 size = m at hr hr8 ⊢
  have hs : size < 0 ∧ (m : Int) ≤ 0 ∨ 0 ≤ size ∧ size ≤ 8 ∧ (m : Int) ≤ size ∧ size ≤ m ∨ 8 < size ∧ 8 ≤ (m : Int) := by omega
  clear hr
  rcases hs with ⟨s0, s1⟩ | ⟨s0, s1, s2, s3⟩ | ⟨s0, s1⟩
  · obtain rfl : m = 0 := by omega
    go_enter Try.func22, Try.ntmps22
    go_wp2
    go_loop [7, 8] (fun z i => i = .int .i64 0 ∧ z = .int .u64 0) (fun _ _ => 0)
    case atStart => exact ⟨rfl, rfl⟩
    case round =>
      obtain ⟨rfl, rfl⟩ := hrel
      go_wp2
      go_ret
      exact ⟨rfl, rfl⟩
  all_goals
    go_enter Try.func22, Try.ntmps22
    go_wp2
    go_loop [7, 8] (fun z i => ∃ k : Nat, k ≤ m ∧ i = .int .i64 k ∧ z = .int .u64 (numTo bs a k)) (fun _ i => m - (intOf i).toNat)
    case atStart => exact ⟨0, Nat.zero_le _, rfl, rfl⟩
    case round =>
      obtain ⟨k, hk, rfl, rfl⟩ := hrel
      by_cases hlt : k < m
      · by_cases c1 : a ≤ n
        · have hw : wrap64 (a + k) = a + k := wrap64_of (by omega) (by omega)
          have hwl : a + k ≤ 9223372036854775807 := by omega
          have hwg : -9223372036854775808 ≤ a + k := by omega
          by_cases c2 : 0 ≤ a + k
          · obtain ⟨i, hi⟩ := Int.eq_ofNat_of_zero_le c2
            by_cases c3 : a + k < n
            · obtain ⟨b, off, rfl, _, hc⟩ := hbs.2.2 (by omega)
              have hci := hc i (by omega)
              have hy := numTo_yes (bs := bs) hi (by rw [hbs.1]; omega)
              have hit : (a + k).toNat = i := by omega
              generalize bs[i]?.getD 0 = x at hci hy
              have Hy := Lib.hid hy
              have Hbs := Lib.hid hbs
              clear hc hy hbs
              go_wp2
              go_round
              case rel => exact ⟨k + 1, by omega, by go_num, by rw [Hy.out]; rfl⟩
              case measure => simp [intOf]; omega
            · have Hy := Lib.hid (numTo_no (bs := bs) (a := a) (m := k) (by rw [hbs.1]; omega))
              clear hi
              go_wp2
              go_round
              case rel => exact ⟨k + 1, by omega, by go_num, by rw [Hy.out]⟩
              case measure => simp [intOf]; omega
          · have Hy := Lib.hid (numTo_no (bs := bs) (a := a) (m := k) (by rw [hbs.1]; omega))
            go_wp2
            go_round
            case rel => exact ⟨k + 1, by omega, by go_num, by rw [Hy.out]⟩
            case measure => simp [intOf]; omega
        · have Hy := Lib.hid (numTo_no (bs := bs) (a := a) (m := k) (by rw [hbs.1]; omega))
          go_wp2
          go_round
          case rel => exact ⟨k + 1, by omega, by go_num, by rw [Hy.out]⟩
          case measure => simp [intOf]; omega
      · have hkm : k = m := by omega
        subst hkm
        go_wp2
        go_ret
        exact ⟨rfl, rfl⟩

/-- One owned byte, found. -/
theorem OwnBytes.spot {w : World} {base : Nat} {A : Option Addr} {n c : Nat} {bs : List Int} (h : OwnBytes w base (.slice A n c) bs) {i : Nat} (hi : i < n) :
    ∃ g, A = .some ⟨g, 0, none⟩ ∧ base ≤ g ∧ w.cell? ⟨g, i, none⟩ = .some (.int .u8 (bs[i]?.getD 0)) ∧ w.frozen? ⟨g, i, none⟩ = false := by
  obtain ⟨g, cur, rfl, hn, h1, h2, h3, h5, h6⟩ := h.some (by omega)
  refine ⟨g, rfl, h1, ?_, frozen_blk h2 i⟩
  have h7 : (cur.toList.take bs.length)[i]? = (bs.map (Value.int .u8))[i]? := by rw [h6]
  have hik : i < bs.length := by omega
  rw [List.getElem?_take_of_lt hik, List.getElem?_map, List.getElem?_eq_getElem hik] at h7
  rw [cell_of_row w g i cur _ (0, 0) h2, ← Array.getElem?_toList, h7, List.getElem?_eq_getElem hik]
  rfl

set_option maxHeartbeats 400000 in
theorem rputNum_any (A : Option Addr) (n c : Nat) (bs : List Int) (a size z : Int) (hn : n ≤ 140737488351232) (ha0 : -9223372036854775808 ≤ a) (ha1 : a ≤ 9223372036854775807) (w : World) (hbs : BytesAt w w.heap.size A n bs) :
    Calls Try.prog 24 #[.slice A n c, .int .i64 a, .int .i64 size, .int .u64 z] w fun e w' =>
      (∃ A' c', e = .returned (.slice A' n c') ∧ OwnBytes w' w.heap.size (.slice A' n c') (putTo bs a z (rounds8 size))) ∧ Below w.heap.size w w' := by
  obtain rfl : bs.length = n := hbs.1
  have hr : (rounds8 size : Int) = min (max size 0) 8 := by unfold rounds8; omega
  have hr8 := rounds8_le size
  generalize rounds8 size = m at hr hr8 ⊢
  have hs : size < 0 ∧ (m : Int) ≤ 0 ∨ 0 ≤ size ∧ size ≤ 8 ∧ (m : Int) ≤ size ∧ size ≤ m ∨ 8 < size ∧ 8 ≤ (m : Int) := by omega
  clear hr
  rcases hs with ⟨s0, s1⟩ | ⟨s0, s1, s2, s3⟩ | ⟨s0, s1⟩
  all_goals
    go_enter Try.func24, Try.ntmps24
    go_wp2_with (at_builtin; refine wpL_app rfl _ _ rfl w.heap.size (.slice none 0 0) [] rfl (World.ownsRow_nil _ _ _ _) w.heap.size A bs.length c bs rfl hbs (by simp; omega) (by simp) ?_; intro A' c' w1 hown hg hrow; rw [List.nil_append] at hown)
    have hb1 : Below w.heap.size w w1 := (Below.refl _ _).grown hg (by simp) (fun k e => by cases e)
    clear hg hrow
  · obtain rfl : m = 0 := by omega
    go_loopw [10] (fun i wr => i = .int .i64 0 ∧ OwnBytes wr w.heap.size (.slice A' bs.length c') bs ∧ Below w.heap.size w wr) (fun _ _ => 0)
    case atStart => exact ⟨rfl, hown, hb1⟩
    case round =>
      obtain ⟨rfl, h0, hb⟩ := hrel
      go_wp2
      go_ret
      exact ⟨⟨_, _, rfl, h0⟩, hb⟩
  all_goals
    go_loopw [10] (fun i wr => ∃ k : Nat, k ≤ m ∧ i = .int .i64 k ∧ OwnBytes wr w.heap.size (.slice A' bs.length c') (putTo bs a z k) ∧ Below w.heap.size w wr) (fun i _ => m - (intOf i).toNat)
    case atStart => exact ⟨0, Nat.zero_le _, rfl, hown, hb1⟩
    case round =>
      obtain ⟨k, hk, rfl, h0, hb⟩ := hrel
      by_cases hlt : k < m
      · by_cases c1 : a ≤ bs.length
        · have hw : wrap64 (a + k) = a + k := wrap64_of (by omega) (by omega)
          have hwl : a + k ≤ 9223372036854775807 := by omega
          have hwg : -9223372036854775808 ≤ a + k := by omega
          by_cases c2 : 0 ≤ a + k
          · obtain ⟨i, hi⟩ := Int.eq_ofNat_of_zero_le c2
            by_cases c3 : a + k < bs.length
            · obtain ⟨g, rfl, hge, hci, hfi⟩ := h0.spot (i := i) (by omega)
              have Hy := Lib.hid (putTo_yes (z := z) (bs := bs) hi (by omega))
              have hit : (a + k).toNat = i := by omega
              have H0 := Lib.hid h0
              have h0' := Lib.hid (h0.set_ rfl i (by omega) (byteOf z k))
              clear h0
              go_wp2
              go_roundw
              case rel => exact ⟨k + 1, by omega, by go_num, by rw [Hy.out]; exact h0'.out, hb.setCell (by simpa using hge) _⟩
              case measure => simp [intOf]; omega
            · have Hy := Lib.hid (putTo_no (z := z) (bs := bs) (a := a) (m := k) (by omega))
              clear hi
              go_wp2
              go_roundw
              case rel => exact ⟨k + 1, by omega, by go_num, by rw [Hy.out]; exact h0, hb⟩
              case measure => simp [intOf]; omega
          · have Hy := Lib.hid (putTo_no (z := z) (bs := bs) (a := a) (m := k) (by omega))
            go_wp2
            go_roundw
            case rel => exact ⟨k + 1, by omega, by go_num, by rw [Hy.out]; exact h0, hb⟩
            case measure => simp [intOf]; omega
        · have Hy := Lib.hid (putTo_no (z := z) (bs := bs) (a := a) (m := k) (by omega))
          go_wp2
          go_roundw
          case rel => exact ⟨k + 1, by omega, by go_num, by rw [Hy.out]; exact h0, hb⟩
          case measure => simp [intOf]; omega
      · have hkm : k = m := by omega
        subst hkm
        go_wp2
        go_ret
        exact ⟨⟨_, _, rfl, h0⟩, hb⟩

/-! ### string(b), and '==' of two such -/
theorem run_str {w : World} {B : Nat} {A : Option Addr} {n c : Nat} {bs : List Int} (h : BytesAt w B A n bs) : (convert 22 9 (.slice A n c)).run Try.prog w = .ok (.string (strOfNums bs)) w := by
  rcases A with _ | ad
  · have h0 : n = 0 := by
      rcases Nat.eq_zero_or_pos n with h0 | h0
      · exact h0
      · obtain ⟨b, off, e, _⟩ := h.2.2 h0; cases e
    subst h0
    have : bs = [] := List.eq_nil_of_length_eq_zero h.1
    subst this
    exact run_convert_bytes_nil w _ _ Try.underlying22 Try.underlying5 0 c _ Try.underlying9
  · rcases Nat.eq_zero_or_pos n with h0 | h0
    · subst h0
      have : bs = [] := List.eq_nil_of_length_eq_zero h.1
      subst this
      rw [run_convert_bytes_string w _ _ _ _ 0 c Try.underlying22 Try.underlying5 Try.underlying9]
      exact run_bytesToString w ad 0 c [] (by simp [loadCells, loadCellsFrom])
    · obtain ⟨b, off, e, _, hc⟩ := h.2.2 h0
      injection e with e
      subst e
      exact run_convert_bytes_arg w _ _ Try.underlying22 Try.underlying5 b off n c bs h.1 (fun i hi => by rw [hc i hi, List.getD_eq_getElem?_getD]) _ Try.underlying9
theorem strOfNums_inj : ∀ {xs ys : List Int}, (∀ x ∈ xs, 0 ≤ x ∧ x < 256) → (∀ x ∈ ys, 0 ≤ x ∧ x < 256) → xs.map (fun n => UInt8.ofNat n.toNat) = ys.map (fun n => UInt8.ofNat n.toNat) → xs = ys
  | [], [], _, _, _ => rfl
  | [], _ :: _, _, _, h => by simp at h
  | _ :: _, [], _, _, h => by simp at h
  | x :: xs, y :: ys, hx, hy, h => by
    simp only [List.map_cons, List.cons.injEq] at h
    have h1 := hx x (by simp)
    have h2 := hy y (by simp)
    have h3 : (UInt8.ofNat x.toNat).toNat = (UInt8.ofNat y.toNat).toNat := by rw [h.1]
    simp only [UInt8.toNat_ofNat'] at h3
    have h4 : x = y := by omega
    rw [h4, strOfNums_inj (fun z hz => hx z (by simp [hz])) (fun z hz => hy z (by simp [hz])) h.2]
theorem strOfNums_eq {xs ys : List Int} (hx : ∀ x ∈ xs, 0 ≤ x ∧ x < 256) (hy : ∀ x ∈ ys, 0 ≤ x ∧ x < 256) : ((strOfNums xs).toList == (strOfNums ys).toList) = decide (xs = ys) := by
  by_cases h : xs = ys
  · subst h; simp
  · rw [decide_eq_false h, beq_eq_false_iff_ne]
    intro e
    apply h
    rw [ByteArray.toList_eq, ByteArray.toList_eq] at e
    exact strOfNums_inj hx hy e
set_option maxHeartbeats 400000 in
theorem same_any (A A' : Option Addr) (n n' c c' : Nat) (bs bs' : List Int) (B B' : Nat) (w : World) (h : BytesAt w B A n bs) (h' : BytesAt w B' A' n' bs') :
    Calls Try.prog 18 #[.slice A n c, .slice A' n' c'] w fun e w' => e = .returned (.bool (decide (bs = bs'))) ∧ w = w' := by
  have h1 := run_str (c := c) h
  have h2 := run_str (c := c') h'
  have h3 := strOfNums_eq h.2.1 h'.2.1
  go_enter Try.func18, Try.ntmps18
  go_wp2
  go_ret
  exact ⟨rfl, rfl⟩

/-! ### Frames -/
theorem OwnBytes.below {w w' : World} {base B : Nat} {v : Value} {bs : List Int} (h : OwnBytes w base v bs) (hb : Below B w w') (hB : w.heap.size ≤ B) : OwnBytes w' base v bs :=
  h.blk fun g cur hg _ => hb.block g (Nat.lt_of_lt_of_le (blk_lt hg) hB)
theorem OwnBytes.base_le {w : World} {base base' : Nat} {v : Value} {bs : List Int} (h : OwnBytes w base v bs) (hb : base' ≤ base) : OwnBytes w base' v bs := by
  refine ⟨h.1, ?_⟩
  rcases h.2 with h0 | ⟨g, cap, cur, rfl, h1, h2⟩
  · exact .inl h0
  · exact .inr ⟨g, cap, cur, rfl, by omega, h2⟩
theorem OwnBytes.frame {a w w' : World} {base B : Nat} {v : Value} {bs : List Int} (h : OwnBytes w base v bs) (hb : Below B a w) (hg : w.grownBy w' v.ownBlock) (hB : B ≤ w.heap.size) (hbase : B ≤ base) : Below B a w' :=
  hb.grown hg hB fun k e => Nat.le_trans hbase (World.ownsRow.lt h k e).1
theorem OwnBytes.made (w : World) (base c : Nat) (cells : Array Value) (hs : cells.size = c) (hb : base ≤ w.heap.size) (hc : c ≤ 9223372036854775807) : OwnBytes (w.alloc (.cells cells 5)) base (.slice (.some ⟨w.heap.size, 0, none⟩) 0 c) [] :=
  ⟨by simp, .inr ⟨w.heap.size, c, cells, rfl, hb, heap_alloc_new w _, by simp, by unfold maxLen; exact hc, by simpa using hs, by simp⟩⟩
theorem OwnBytes.lit (w : World) (base : Nat) (bs : List Int) (hb : base ≤ w.heap.size) (hc : bs.length ≤ 9223372036854775807) : OwnBytes (w.alloc (.cells (ints .u8 bs) 5)) base (.slice (.some ⟨w.heap.size, 0, none⟩) bs.length bs.length) bs :=
  ⟨by simp, .inr ⟨w.heap.size, bs.length, ints .u8 bs, rfl, hb, heap_alloc_new w _, Nat.le_refl _, by unfold maxLen; exact hc, by rw [ints_size]; simp, by simp only [ints, Nat.mul_one]; exact List.take_of_length_le (by simp)⟩⟩
theorem byteOf_range (z : Int) (k : Nat) : 0 ≤ byteOf z k ∧ byteOf z k < 256 := by
  unfold byteOf; rw [IntKind.wrap_u8]; omega
theorem putTo_range {bs : List Int} (a z : Int) (h : ∀ x ∈ bs, 0 ≤ x ∧ x < 256) : ∀ m, ∀ x ∈ putTo bs a z m, 0 ≤ x ∧ x < 256
  | 0 => h
  | m + 1 => by
    rw [putTo]
    split
    · intro x hx
      rcases List.mem_or_eq_of_mem_set hx with h1 | rfl
      · exact putTo_range a z h m x h1
      · exact byteOf_range _ _
    · exact putTo_range a z h m

/-! ### A []byte that came in -/
section
open Go.ChangeShapes Go.WideShapes Go.ChangeAt
theorem bytes_open {H : Type} {enc : TypeId × Value → H} {W : World} {a : Option Addr} {len cap : Nat} {d : DataW H} {p : List MemPlace} {ts : List TypeId} {ds : List (DataW H)} {j : Nat}
    (hsz : (DataW.weightsEach Try.prog ts ds).all (· ≤ reachBytes) = true) (htj : ts[j]? = some 22) (hdj : ds[j]? = some d)
    (h : DataW.Trod enc Try.prog W 0 (fun _ => true) true 22 (.slice a len cap) d p) :
    ∃ bs, BytesAt W W.heap.size a len bs ∧ len ≤ cap ∧ cap ≤ 140737488351232 := by
  obtain ⟨fuel, hf⟩ := h
  rcases open_ints Try.underlying22 Try.underlying5 (by kernel_rfl) hf with ⟨hcs, _⟩ | ⟨x, l, c, zs, hcs, _, hl, hm, hz, hx, hcell, hwz⟩
  · simp [Value.cells] at hcs
    obtain ⟨rfl, rfl, rfl⟩ := hcs
    exact ⟨[], ⟨rfl, by simp, by omega⟩, by omega, by omega⟩
  · simp [Value.cells] at hcs
    obtain ⟨rfl, rfl, rfl⟩ := hcs
    simp only [if_true] at hz
    have hd : d = _ := (Prod.mk.inj hx).1
    have hr := sized_slice hsz htj (by rw [hdj, hd]) Try.underlying22
    have hbo : Try.prog.bytesOf 5 = 1 := by kernel_rfl
    have hre : reachBytes = 140737488351232 := rfl
    have hll : (lits IntKind.u8 (zs.take len) : List (DataW H)).length + (lits IntKind.u8 (zs.drop len) : List (DataW H)).length = zs.length := by
      simp only [lits, List.length_map, List.length_take, List.length_drop]; omega
    rw [hll, hbo, hre, Nat.mul_one] at hr
    refine ⟨zs.take len, ⟨by rw [List.length_take]; omega, ?_, ?_⟩, by omega, by omega⟩
    · intro n hn
      have := hwz n (List.mem_of_mem_take hn)
      simp only [Lit.wf, Bool.and_eq_true, decide_eq_true_eq] at this
      have h1 : IntKind.u8.min = 0 := rfl
      have h2 : IntKind.u8.max = 255 := rfl
      omega
    · intro h0
      obtain ⟨b, off, spot⟩ := x
      have hc0 := hcell 0 (by omega)
      have hspot : spot = none := by simpa [Addr.add] using World.cell?_spot hc0
      subst hspot
      refine ⟨b, off, rfl, (World.block_lt_of_cell? W _ hc0 : _), fun i hi => ?_⟩
      have hci := hcell i (by omega)
      rw [Addr.add_mid] at hci
      rw [hci, List.getElem?_take_of_lt hi, List.getD_eq_getElem?_getD]
end
end Go.Proofs.Ytghpnhiliihlaaa
