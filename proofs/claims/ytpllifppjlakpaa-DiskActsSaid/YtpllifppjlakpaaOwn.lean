/-
  Bytes that are read, bytes that the call itself made (XLe without le's numbers).
-/
import Derived.Test.YtpllifppjlakpaaArr
import Derived.SizedLaws
import Derived.Shelf.Abstract
import Derived.Laws.BytesArg
namespace Go.Proofs.Ytpllifppjlakpaa
set_option linter.unusedVariables false
set_option linter.unusedSimpArgs false
open Go.RowKit

/-- The slice value '.slice A n c' holds the bytes bs, in a block below B. -/
def BytesAt (w : World) (B : Nat) (A : Option Addr) (n : Nat) (bs : List Int) : Prop :=
  bs.length = n ∧ (∀ x ∈ bs, 0 ≤ x ∧ x < 256) ∧ (0 < n → ∃ b off, A = some ⟨b, off, none⟩ ∧ b < B ∧ ∀ i, i < n → w.cell? ⟨b, off + i, none⟩ = some (.int .u8 (bs[i]?.getD 0)))
theorem BytesAt.keep {w w' : World} {B : Nat} {A : Option Addr} {n : Nat} {bs : List Int} (h : BytesAt w B A n bs) (hk : ∀ p : Addr, p.block < B → w'.cell? p = w.cell? p) : BytesAt w' B A n bs :=
  ⟨h.1, h.2.1, fun hn => by
    obtain ⟨b, off, e, hb, hc⟩ := h.2.2 hn
    exact ⟨b, off, e, hb, fun i hi => (hk _ hb).trans (hc i hi)⟩⟩
theorem BytesAt.below {w w' : World} {B : Nat} {A : Option Addr} {n : Nat} {bs : List Int} (h : BytesAt w B A n bs) (hb : Below B w w') : BytesAt w' B A n bs := h.keep fun _ hp => hb.cell hp
theorem BytesAt.more {w : World} {B B' : Nat} {A : Option Addr} {n : Nat} {bs : List Int} (h : BytesAt w B A n bs) (hB : B ≤ B') : BytesAt w B' A n bs :=
  ⟨h.1, h.2.1, fun hn => by
    obtain ⟨b, off, e, hb, hc⟩ := h.2.2 hn
    exact ⟨b, off, e, by omega, hc⟩⟩
theorem BytesAt.range {w : World} {B : Nat} {A : Option Addr} {n : Nat} {bs : List Int} (h : BytesAt w B A n bs) (i : Nat) : 0 ≤ bs[i]?.getD 0 ∧ bs[i]?.getD 0 < 256 := by
  cases hx : bs[i]? with
  | none => simp
  | some x => exact h.2.1 x (List.mem_of_getElem? hx)

theorem wrap64_of {z : Int} (h0 : -9223372036854775808 ≤ z) (h1 : z ≤ 9223372036854775807) : wrap64 z = z := IntWalk.wrap64_in z ⟨h0, h1⟩

/-! ### Bytes that the call itself made -/
/-- The slice value v owns the bytes bs, in a block from base on. -/
def OwnBytes (w : World) (base : Nat) (v : Value) (bs : List Int) : Prop := w.ownsRow base 5 1 v bs.length (bs.map (Value.int .u8))
theorem OwnBytes.form {w : World} {base : Nat} {v : Value} {bs : List Int} (h : OwnBytes w base v bs) : ∃ A c, v = .slice A bs.length c := by
  rcases h.2 with ⟨rfl, h0⟩ | ⟨g, cap, cur, rfl, _⟩
  · exact ⟨none, 0, by rw [h0]⟩
  · exact ⟨_, cap, rfl⟩
theorem OwnBytes.some {w : World} {base : Nat} {A : Option Addr} {n c : Nat} {bs : List Int} (h : OwnBytes w base (.slice A n c) bs) (hn : 0 < n) :
    ∃ g cur, A = some ⟨g, 0, none⟩ ∧ n = bs.length ∧ base ≤ g ∧ w.heap[g]? = some (.cells cur 5 (0, 0)) ∧ bs.length ≤ c ∧ cur.size = c ∧ cur.toList.take bs.length = bs.map (Value.int .u8) := by
  rcases h.2 with ⟨e, h0⟩ | ⟨g, cap, cur, e, h1, h2, h3, h4, h5, h6⟩
  · injection e with _ e2 _; omega
  · injection e with e1 e2 e3
    subst e1; subst e3
    exact ⟨g, cur, rfl, e2, h1, h2, h3, by simpa using h5, by simpa using h6⟩
theorem OwnBytes.at_ {w : World} {base : Nat} {A : Option Addr} {n c : Nat} {bs : List Int} (h : OwnBytes w base (.slice A n c) bs) (hr : ∀ x ∈ bs, 0 ≤ x ∧ x < 256) : BytesAt w w.heap.size A n bs := by
  have hn : n = bs.length := by
    obtain ⟨A', c', e⟩ := h.form
    injection e
  refine ⟨hn.symm, hr, fun h0 => ?_⟩
  obtain ⟨g, cur, rfl, -, _, h2, h3, h5, h6⟩ := h.some h0
  refine ⟨g, 0, rfl, blk_lt h2, fun i hi => ?_⟩
  rw [Nat.zero_add, cell_of_row w g i cur _ (0, 0) h2]
  have h7 : (cur.toList.take bs.length)[i]? = (bs.map (Value.int .u8))[i]? := by rw [h6]
  rw [List.getElem?_take_of_lt (by omega), List.getElem?_map] at h7
  rw [← Array.getElem?_toList, h7]
  simp [show i < bs.length by omega]
theorem OwnBytes.kept {w w' : World} {base : Nat} {v : Value} {bs : List Int} (h : OwnBytes w base v bs) {row : Option Nat} (hg : w.grownBy w' row) (hne : v.ownBlock = none ∨ v.ownBlock ≠ row) : OwnBytes w' base v bs := World.ownsRow.kept h hg hne
theorem OwnBytes.alloc {w : World} {base : Nat} {v : Value} {bs : List Int} (h : OwnBytes w base v bs) (o : Obj) : OwnBytes (w.alloc o) base v bs := World.ownsRow.alloc h o
theorem OwnBytes.drew {w : World} {base : Nat} {v : Value} {bs : List Int} (h : OwnBytes w base v bs) : OwnBytes w.drew base v bs := h
theorem OwnBytes.blk {w w' : World} {base : Nat} {v : Value} {bs : List Int} (h : OwnBytes w base v bs) (hk : ∀ g cur, w.heap[g]? = .some (.cells cur 5 (0, 0)) → v.ownBlock = .some g → w'.heap[g]? = w.heap[g]?) : OwnBytes w' base v bs := by
  refine ⟨h.1, ?_⟩
  rcases h.2 with h0 | ⟨g, cap, cur, rfl, h1, h2, h3⟩
  · exact .inl h0
  · exact .inr ⟨g, cap, cur, rfl, h1, (hk g cur h2 rfl).trans h2, h3⟩
theorem OwnBytes.set_ {w : World} {base : Nat} {A : Option Addr} {n c : Nat} {bs : List Int} (h : OwnBytes w base (.slice A n c) bs) {g : Nat} (hA : A = .some ⟨g, 0, none⟩) (i : Nat) (hi : i < n) (x : Int) :
    OwnBytes (w.setCell ⟨g, i, none⟩ (.int .u8 x)) base (.slice A n c) (bs.set i x) := by
  obtain ⟨g', cur, e, hn, h1, h2, h3, h5, h6⟩ := h.some (by omega)
  rw [hA] at e
  injection e with e
  injection e with e
  subst e
  subst hA
  unfold OwnBytes
  refine ⟨by simp, .inr ⟨g, c, cur.setIfInBounds i (.int .u8 x), by rw [hn]; simp, h1, heap_setCell_same w g i cur _ _ h2, by simpa using h3, ?_, by simpa using h5, ?_⟩⟩
  · rcases h.2 with ⟨e, _⟩ | ⟨g', cap, cur', e, _, _, _, h7, _⟩
    · cases e
    · injection e with _ _ e; subst e; exact h7
  · have h7 : (cur.setIfInBounds i (Value.int .u8 x)).toList = cur.toList.set i (.int .u8 x) := by simp
    rw [h7, List.map_set, Nat.mul_one, List.length_set, List.take_set, h6]
theorem infoU8 : (Try.prog.info? 5).map (fun i => (i.zero, i.size, i.bytes)) = some (some (.int .u8 0), 1, 1) := by kernel_rfl

/-- append(v, x...) onto bytes of the call's own, the source nil or not. -/
theorem wpL_app {ops : Array Oper} {rest : List Oper} {o : Oper} {a : Act} {w : World} {Q : Exit → Act → World → Prop} (hw : Region.wanted o (yielded ops a.tmps) = true) (s x : Operand)
    (ho : o.op = .call { callee := .builtin .append, args := #[s, x], argTypes := #[22, 22] })
    (base : Nat) (v : Value) (bs : List Int) (hs : a.eval s = v) (hown : OwnBytes w base v bs)
    (B : Nat) (A : Option Addr) (m c : Nat) (cs : List Int) (hx : a.eval x = .slice A m c) (hr : BytesAt w B A m cs) (hsum : bs.length + m ≤ 140737488355328) (hbase : base ≤ w.heap.size)
    (h : ∀ A' c' w', OwnBytes w' base (.slice A' (bs ++ cs).length c') (bs ++ cs) → w.grownBy w' v.ownBlock → ((Value.slice A' (bs ++ cs).length c').ownBlock = v.ownBlock ∨ (Value.slice A' (bs ++ cs).length c').ownBlock = some w.heap.size) → wpList Try.prog ops Q rest (a.put o.dst (.slice A' (bs ++ cs).length c')) w') :
    wpList Try.prog ops Q (o :: rest) a w := by
  obtain ⟨i0, hi, hz0, hz1, hz2⟩ := info_parts infoU8
  refine BigFrame.wpList_want hw fun K hK => ?_
  have key : ∃ v' w', (Builtin.append_ #[22, 22] o.type #[v, .slice A m c]).run Try.prog w = .ok v' w' ∧ OwnBytes w' base v' (bs ++ cs) ∧ w.grownBy w' v.ownBlock ∧ (v'.ownBlock = v.ownBlock ∨ v'.ownBlock = some w.heap.size) := by
    rcases Nat.eq_zero_or_pos m with h0 | h0
    · subst h0
      have hcs : cs = [] := List.eq_nil_of_length_eq_zero hr.1
      subst hcs
      rw [List.append_nil]
      refine ⟨v, w, ?_, hown, World.grownBy.refl w _, .inl rfl⟩
      rcases hown.2 with ⟨rfl, h1⟩ | ⟨g, cap, cur, rfl, _, _, hnc, _⟩
      · cases A <;> simp [Builtin.append_, run_underlying Try.underlying22, sizeOf, typeInfo, hi, hz1, Builtin.lenOf, Builtin.firstCells, loadCells, loadCellsFrom, storeCells]
      · cases A <;> simp [Builtin.append_, run_underlying Try.underlying22, sizeOf, typeInfo, hi, hz1, Builtin.lenOf, Builtin.firstCells, hnc, loadCells, loadCellsFrom, storeCells]
    · obtain ⟨b, off, rfl, hb, hc⟩ := hr.2.2 h0
      obtain ⟨v', w', hrun, h2, h3, _, h5⟩ := run_append_own_at (P := Try.prog) w base 22 o.type 5 i0 (.int .u8 0) 1 1 Try.underlying22 hi hz0 hz1 hz2 rfl (by decide) v bs.length (bs.map (Value.int .u8)) hown ⟨b, off, none⟩ m c (cs.map (Value.int .u8)) (by simp [hr.1])
        (fun j u hj => by
          have hjm : j < m := by rw [← hr.1]; have := (List.getElem?_eq_some_iff.1 hj).1; simpa using this
          rw [Addr.add_mid, hc j hjm]
          rw [List.getElem?_map] at hj
          have hjc : j < cs.length := by rw [hr.1]; exact hjm
          rw [List.getElem?_eq_getElem hjc] at hj ⊢
          exact hj)
        (fun u hu => by simp at hu; obtain ⟨x, _, rfl⟩ := hu; rfl) (by unfold maxLen; omega) (by omega) hbase
      refine ⟨v', w', hrun, ?_, h3, h5⟩
      unfold OwnBytes
      rw [List.length_append, hr.1, List.map_append]
      exact h2
  obtain ⟨v', w', hrun, h2, h3, h5⟩ := key
  obtain ⟨A', c', rfl⟩ := h2.form
  unfold Oper.wp execOp
  simp only [ho, resolve, invoke, builtin, Sem.run_bind, Sem.run_pure, Result.andThen_ok, List.map_toArray, List.map_cons, List.map_nil, hs, hx, hrun]
  exact hK _ _ (h A' c' w' h2 h3 h5)

/-- One owned byte, found. -/
theorem OwnBytes.spot {w : World} {base : Nat} {A : Option Addr} {n c : Nat} {bs : List Int} (h : OwnBytes w base (.slice A n c) bs) {i : Nat} (hi : i < n) :
    ∃ g, A = .some ⟨g, 0, none⟩ ∧ base ≤ g ∧ w.cell? ⟨g, i, none⟩ = .some (.int .u8 (bs[i]?.getD 0)) ∧ w.frozen? ⟨g, i, none⟩ = false := by
  obtain ⟨g, cur, rfl, hn, h1, h2, h3, h5, h6⟩ := h.some (by omega)
  refine ⟨g, rfl, h1, ?_, frozen_blk h2 i⟩
  have h7 : (cur.toList.take bs.length)[i]? = (bs.map (Value.int .u8))[i]? := by rw [h6]
  have hik : i < bs.length := by omega
  rw [List.getElem?_take_of_lt hik, List.getElem?_map, List.getElem?_eq_getElem hik] at h7
  rw [cell_of_row w g i cur _ (0, 0) h2, ← Array.getElem?_toList, h7, List.getElem?_eq_getElem hik]
  rfl

/-! ### string(b), and '==' of two such -/
theorem run_str {w : World} {B : Nat} {A : Option Addr} {n c : Nat} {bs : List Int} (h : BytesAt w B A n bs) : (convert 22 9 (.slice A n c)).run Try.prog w = .ok (.string (strOfNums bs)) w := by
  rcases A with _ | ad
  · have h0 : n = 0 := by
      rcases Nat.eq_zero_or_pos n with h0 | h0
      · exact h0
      · obtain ⟨b, off, e, _⟩ := h.2.2 h0; cases e
    subst h0
    have : bs = [] := List.eq_nil_of_length_eq_zero h.1
    subst this
    exact run_convert_bytes_nil w _ _ Try.underlying22 Try.underlying5 0 c _ Try.underlying9
  · rcases Nat.eq_zero_or_pos n with h0 | h0
    · subst h0
      have : bs = [] := List.eq_nil_of_length_eq_zero h.1
      subst this
      rw [run_convert_bytes_string w _ _ _ _ 0 c Try.underlying22 Try.underlying5 Try.underlying9]
      exact run_bytesToString w ad 0 c [] (by simp [loadCells, loadCellsFrom])
    · obtain ⟨b, off, e, _, hc⟩ := h.2.2 h0
      injection e with e
      subst e
      exact run_convert_bytes_arg w _ _ Try.underlying22 Try.underlying5 b off n c bs h.1 (fun i hi => by rw [hc i hi, List.getD_eq_getElem?_getD]) _ Try.underlying9
theorem strOfNums_inj : ∀ {xs ys : List Int}, (∀ x ∈ xs, 0 ≤ x ∧ x < 256) → (∀ x ∈ ys, 0 ≤ x ∧ x < 256) → xs.map (fun n => UInt8.ofNat n.toNat) = ys.map (fun n => UInt8.ofNat n.toNat) → xs = ys
  | [], [], _, _, _ => rfl
  | [], _ :: _, _, _, h => by simp at h
  | _ :: _, [], _, _, h => by simp at h
  | x :: xs, y :: ys, hx, hy, h => by
    simp only [List.map_cons, List.cons.injEq] at h
    have h1 := hx x (by simp)
    have h2 := hy y (by simp)
    have h3 : (UInt8.ofNat x.toNat).toNat = (UInt8.ofNat y.toNat).toNat := by rw [h.1]
    simp only [UInt8.toNat_ofNat'] at h3
    have h4 : x = y := by omega
    rw [h4, strOfNums_inj (fun z hz => hx z (by simp [hz])) (fun z hz => hy z (by simp [hz])) h.2]
theorem strOfNums_eq {xs ys : List Int} (hx : ∀ x ∈ xs, 0 ≤ x ∧ x < 256) (hy : ∀ x ∈ ys, 0 ≤ x ∧ x < 256) : ((strOfNums xs).toList == (strOfNums ys).toList) = decide (xs = ys) := by
  by_cases h : xs = ys
  · subst h; simp
  · rw [decide_eq_false h, beq_eq_false_iff_ne]
    intro e
    apply h
    rw [ByteArray.toList_eq, ByteArray.toList_eq] at e
    exact strOfNums_inj hx hy e
/-! ### Frames -/
theorem OwnBytes.below {w w' : World} {base B : Nat} {v : Value} {bs : List Int} (h : OwnBytes w base v bs) (hb : Below B w w') (hB : w.heap.size ≤ B) : OwnBytes w' base v bs :=
  h.blk fun g cur hg _ => hb.block g (Nat.lt_of_lt_of_le (blk_lt hg) hB)
theorem OwnBytes.base_le {w : World} {base base' : Nat} {v : Value} {bs : List Int} (h : OwnBytes w base v bs) (hb : base' ≤ base) : OwnBytes w base' v bs := by
  refine ⟨h.1, ?_⟩
  rcases h.2 with h0 | ⟨g, cap, cur, rfl, h1, h2⟩
  · exact .inl h0
  · exact .inr ⟨g, cap, cur, rfl, by omega, h2⟩
theorem OwnBytes.frame {a w w' : World} {base B : Nat} {v : Value} {bs : List Int} (h : OwnBytes w base v bs) (hb : Below B a w) (hg : w.grownBy w' v.ownBlock) (hB : B ≤ w.heap.size) (hbase : B ≤ base) : Below B a w' :=
  hb.grown hg hB fun k e => Nat.le_trans hbase (World.ownsRow.lt h k e).1
theorem OwnBytes.made (w : World) (base c : Nat) (cells : Array Value) (hs : cells.size = c) (hb : base ≤ w.heap.size) (hc : c ≤ 9223372036854775807) : OwnBytes (w.alloc (.cells cells 5)) base (.slice (.some ⟨w.heap.size, 0, none⟩) 0 c) [] :=
  ⟨by simp, .inr ⟨w.heap.size, c, cells, rfl, hb, heap_alloc_new w _, by simp, by unfold maxLen; exact hc, by simpa using hs, by simp⟩⟩
theorem OwnBytes.lit (w : World) (base : Nat) (bs : List Int) (hb : base ≤ w.heap.size) (hc : bs.length ≤ 9223372036854775807) : OwnBytes (w.alloc (.cells (ints .u8 bs) 5)) base (.slice (.some ⟨w.heap.size, 0, none⟩) bs.length bs.length) bs :=
  ⟨by simp, .inr ⟨w.heap.size, bs.length, ints .u8 bs, rfl, hb, heap_alloc_new w _, Nat.le_refl _, by unfold maxLen; exact hc, by rw [ints_size]; simp, by simp only [ints, Nat.mul_one]; exact List.take_of_length_le (by simp)⟩⟩
/-! ### A []byte that came in -/
section
open Go.ChangeShapes Go.WideShapes Go.ChangeAt
theorem bytes_open {H : Type} {enc : TypeId × Value → H} {W : World} {a : Option Addr} {len cap : Nat} {d : DataW H} {p : List MemPlace} {ts : List TypeId} {ds : List (DataW H)} {j : Nat}
    (hsz : (DataW.weightsEach Try.prog ts ds).all (· ≤ reachBytes) = true) (htj : ts[j]? = some 22) (hdj : ds[j]? = some d)
    (h : DataW.Trod enc Try.prog W 0 (fun _ => true) true 22 (.slice a len cap) d p) :
    ∃ bs, BytesAt W W.heap.size a len bs ∧ len ≤ cap ∧ cap ≤ 140737488351232 := by
  obtain ⟨fuel, hf⟩ := h
  rcases open_ints Try.underlying22 Try.underlying5 (by kernel_rfl) hf with ⟨hcs, _⟩ | ⟨x, l, c, zs, hcs, _, hl, hm, hz, hx, hcell, hwz⟩
  · simp [Value.cells] at hcs
    obtain ⟨rfl, rfl, rfl⟩ := hcs
    exact ⟨[], ⟨rfl, by simp, by omega⟩, by omega, by omega⟩
  · simp [Value.cells] at hcs
    obtain ⟨rfl, rfl, rfl⟩ := hcs
    simp only [if_true] at hz
    have hd : d = _ := (Prod.mk.inj hx).1
    have hr := sized_slice hsz htj (by rw [hdj, hd]) Try.underlying22
    have hbo : Try.prog.bytesOf 5 = 1 := by kernel_rfl
    have hre : reachBytes = 140737488351232 := rfl
    have hll : (lits IntKind.u8 (zs.take len) : List (DataW H)).length + (lits IntKind.u8 (zs.drop len) : List (DataW H)).length = zs.length := by
      simp only [lits, List.length_map, List.length_take, List.length_drop]; omega
    rw [hll, hbo, hre, Nat.mul_one] at hr
    refine ⟨zs.take len, ⟨by rw [List.length_take]; omega, ?_, ?_⟩, by omega, by omega⟩
    · intro n hn
      have := hwz n (List.mem_of_mem_take hn)
      simp only [Lit.wf, Bool.and_eq_true, decide_eq_true_eq] at this
      have h1 : IntKind.u8.min = 0 := rfl
      have h2 : IntKind.u8.max = 255 := rfl
      omega
    · intro h0
      obtain ⟨b, off, spot⟩ := x
      have hc0 := hcell 0 (by omega)
      have hspot : spot = none := by simpa [Addr.add] using World.cell?_spot hc0
      subst hspot
      refine ⟨b, off, rfl, (World.block_lt_of_cell? W _ hc0 : _), fun i hi => ?_⟩
      have hci := hcell i (by omega)
      rw [Addr.add_mid] at hci
      rw [hci, List.getElem?_take_of_lt hi, List.getD_eq_getElem?_getD]
end
end Go.Proofs.Ytpllifppjlakpaa
