/-
  le.Mix and its reference: both tell the same bytes, for every two texts and every cut.
-/
import Derived.Test.YtpllifppjlakpaaOwn
import Derived.Laws.CopyOwn
import Derived.Deep.RegionLaw
namespace Go.Proofs.Ytpllifppjlakpaa
set_option linter.unusedVariables false
set_option linter.unusedSimpArgs false
open Go.RowKit

def nots (n : Nat) : List Int := List.replicate n 0
/-- b, cut or filled up with noughts to n bytes. -/
def padTo (n : Nat) (b : List Int) : List Int := b.take n ++ nots (n - b.length)
theorem padTo_length (n : Nat) (b : List Int) : (padTo n b).length = n := by simp [padTo, nots]; omega
def mixOf (a b : List Int) (k : Nat) (head : Bool) : List Int :=
  if head then a.take k ++ (padTo a.length b).drop k else (padTo a.length b).take k ++ a.drop k
/-- The cut as it counts. -/
def cutOf (cut : Int) (n : Nat) : Nat := (min (max cut 0) n).toNat
theorem OwnBytes.of_blk {w : World} {base g : Nat} {L : List Int} (h : w.heap[g]? = .some (.cells (Go.Proofs.Ytpllifppjlakpaa.ints .u8 L) 5 (0, 0))) (hb : base ≤ g) (hL : L.length ≤ 9223372036854775807) : OwnBytes w base (.slice (.some ⟨g, 0, none⟩) L.length L.length) L :=
  ⟨by simp, .inr ⟨g, L.length, Go.Proofs.Ytpllifppjlakpaa.ints .u8 L, rfl, hb, h, Nat.le_refl _, by unfold maxLen; exact hL, by rw [ints_size]; simp, by simp only [Go.Proofs.Ytpllifppjlakpaa.ints, Nat.mul_one]; exact List.take_of_length_le (by simp)⟩⟩
theorem make_n (n : Nat) (hn : n ≤ 140737488351232) (w : World) : (Instr.makeSlice 22 (.int .i64 (n : Int)) (.int .i64 (n : Int))).run Try.prog w = .ok (.slice (some ⟨w.heap.size, 0, none⟩) n n) (w.alloc (.cells (ints .u8 (nots n)) 5)) := by
  obtain ⟨i0, hi, hz0, hz1, hz2⟩ := info_parts infoU8
  have h := run_make (P := Try.prog) w 22 5 i0 (.int .u8 0) Try.underlying22 hi hz0 .i64 .i64 (n : Int) (n : Int) (by omega) (by omega) (by rw [hz2]; omega) (by omega)
  rw [h, Int.toNat_natCast, hz1]
  congr 4
  apply Array.ext_getElem?
  intro j
  simp only [madeCells, ints, nots, Value.cells, Array.getElem?_map, Nat.mul_one, List.map_replicate, List.getElem?_toArray, List.getElem?_replicate]
  by_cases hj : j < n
  · rw [Array.getElem?_eq_getElem (by simpa using hj)]
    simp [hj, Nat.mod_one]
  · rw [Array.getElem?_eq_none (by simp; omega)]
    simp [hj]

theorem BytesAt.take {w : World} {B : Nat} {A : Option Addr} {n : Nat} {bs : List Int} (h : BytesAt w B A n bs) {k : Nat} (hk : k ≤ n) : BytesAt w B A k (bs.take k) := by
  refine ⟨by rw [List.length_take, h.1]; omega, fun x hx => h.2.1 x (List.mem_of_mem_take hx), fun h0 => ?_⟩
  obtain ⟨b, off, e, hb, hc⟩ := h.2.2 (by omega)
  exact ⟨b, off, e, hb, fun i hi => by rw [hc i (by omega), List.getElem?_take_of_lt hi]⟩
theorem BytesAt.drop {w : World} {B : Nat} {A : Option Addr} {n : Nat} {bs : List Int} (h : BytesAt w B A n bs) {k c : Nat} (hk : k ≤ n) (hc : n ≤ c) :
    BytesAt w B (if c = k then A else A.map (·.add k)) (n - k) (bs.drop k) := by
  refine ⟨by rw [List.length_drop, h.1], fun x hx => h.2.1 x (List.mem_of_mem_drop hx), fun h0 => ?_⟩
  obtain ⟨b, off, rfl, hb, hcell⟩ := h.2.2 (by omega)
  rw [if_neg (by omega)]
  refine ⟨b, off + k, by simp [Addr.add_mid], hb, fun i hi => ?_⟩
  rw [Nat.add_assoc, hcell (k + i) (by omega), List.getElem?_drop]
theorem splice_ints (L : List Int) (off : Nat) (cs : List Int) : splice (L.map (Value.int .u8)) off (cs.map (Value.int .u8)) = (splice L off cs).map (Value.int .u8) := by
  simp [splice, List.map_take, List.map_drop]

/-- copy(d, s) into a block of the call's own. -/
theorem wpL_copy {ops : Array Oper} {rest : List Oper} {o : Oper} {a : Act} {w : World} {Q : Exit → Act → World → Prop} (hgd : o.guard = none) (d s : Operand)
    (ho : o.op = .call { callee := .builtin .copy, args := #[d, s], argTypes := #[22, 22] }) (dp : Option Addr) (dLen dCap : Nat) (hd : a.eval d = .slice dp dLen dCap)
    (A : Option Addr) (m c : Nat) (hs : a.eval s = .slice A m c) (B : Nat) (cs : List Int) (hr : BytesAt w B A m cs) (g off : Nat) (L : List Int) (hg : w.heap[g]? = some (.cells (ints .u8 L) 5 (0, 0)))
    (hdp : 0 < dLen → dp = some ⟨g, off, none⟩) (hoff : off + min m dLen ≤ L.length) (B0 : Nat) (w0 : World) (hb : Below B0 w0 w) (hB : B0 ≤ g)
    (h : ∀ w', Hid (w'.heap[g]? = some (.cells (ints .u8 (splice L off (cs.take dLen))) 5 (0, 0))) → Below B0 w0 w' → wpList Try.prog ops Q rest (a.put o.dst (goInt ((min m dLen : Nat) : Int))) w') :
    wpList Try.prog ops Q (o :: rest) a w := by
  obtain ⟨i0, hi, hz0, hz1, hz2⟩ := info_parts infoU8
  have hlen : ((cs.take dLen).map (Value.int .u8)).length = min m dLen := by rw [List.length_map, List.length_take, hr.1, Nat.min_comm]
  refine wpList_copy_splice hgd d s _ _ ho 5 Try.underlying22 (by rw [hi]; simp [hz1]) dp A dLen dCap m c hd hs g off (L.map (Value.int .u8)) 5 hg ((cs.take dLen).map (Value.int .u8)) hlen
    (fun h0 => ?_) (by rw [hlen, List.length_map]; exact hoff) (fun v hv => by obtain ⟨x, _, rfl⟩ := List.mem_map.1 hv; rfl) B0 w0 hb hB ?_
  · rw [hlen] at h0
    refine ⟨hdp (by omega), ?_⟩
    obtain ⟨b, of, rfl, _, hc⟩ := hr.2.2 (by omega)
    refine ⟨_, rfl, fun j v hj => ?_⟩
    have hjl : j < min m dLen := by rw [← hlen]; exact (List.getElem?_eq_some_iff.1 hj).1
    rw [Addr.add_mid, hc j (by omega)]
    rw [List.getElem?_map, List.getElem?_take_of_lt (by omega)] at hj
    have hjc : j < cs.length := by rw [hr.1]; omega
    rw [List.getElem?_eq_getElem hjc] at hj ⊢
    exact hj
  · intro w' hw' hb'
    rw [hlen]
    refine h w' ?_ hb'
    have := hw'.out
    rw [splice_ints] at this
    exact this
/-- The same, in a region that draws its order. -/
theorem stepL_copy {ops : Array Oper} {o : Oper} {a : Act} {w : World} {K : Act → World → Prop} {Q : Exit → Act → World → Prop} {E : Prop} (hgd : o.guard = none) (d s : Operand)
    (ho : o.op = .call { callee := .builtin .copy, args := #[d, s], argTypes := #[22, 22] }) (dp : Option Addr) (dLen dCap : Nat) (hd : a.eval d = .slice dp dLen dCap)
    (A : Option Addr) (m c : Nat) (hs : a.eval s = .slice A m c) (B : Nat) (cs : List Int) (hr : BytesAt w B A m cs) (g off : Nat) (L : List Int) (hg : w.heap[g]? = some (.cells (ints .u8 L) 5 (0, 0)))
    (hdp : 0 < dLen → dp = some ⟨g, off, none⟩) (hoff : off + min m dLen ≤ L.length) (B0 : Nat) (w0 : World) (hb : Below B0 w0 w) (hB : B0 ≤ g)
    (h : ∀ w', Hid (w'.heap[g]? = some (.cells (ints .u8 (splice L off (cs.take dLen))) 5 (0, 0))) → Below B0 w0 w' → K (a.put o.dst (goInt ((min m dLen : Nat) : Int))) w') :
    if Region.wanted o (yielded ops a.tmps) = true then Oper.wp Try.prog o a w K Q else E := by
  obtain ⟨i0, hi, hz0, hz1, hz2⟩ := info_parts infoU8
  have hlen : ((cs.take dLen).map (Value.int .u8)).length = min m dLen := by rw [List.length_map, List.length_take, hr.1, Nat.min_comm]
  refine step_copy_splice hgd d s _ _ ho 5 Try.underlying22 (by rw [hi]; simp [hz1]) dp A dLen dCap m c hd hs g off (L.map (Value.int .u8)) 5 hg ((cs.take dLen).map (Value.int .u8)) hlen
    (fun h0 => ?_) (by rw [hlen, List.length_map]; exact hoff) (fun v hv => by obtain ⟨x, _, rfl⟩ := List.mem_map.1 hv; rfl) B0 w0 hb hB ?_
  · rw [hlen] at h0
    refine ⟨hdp (by omega), ?_⟩
    obtain ⟨b, of, rfl, _, hc⟩ := hr.2.2 (by omega)
    refine ⟨_, rfl, fun j v hj => ?_⟩
    have hjl : j < min m dLen := by rw [← hlen]; exact (List.getElem?_eq_some_iff.1 hj).1
    rw [Addr.add_mid, hc j (by omega)]
    rw [List.getElem?_map, List.getElem?_take_of_lt (by omega)] at hj
    have hjc : j < cs.length := by rw [hr.1]; omega
    rw [List.getElem?_eq_getElem hjc] at hj ⊢
    exact hj
  · intro w' hw' hb'
    rw [hlen]
    refine h w' ?_ hb'
    have := hw'.out
    rw [splice_ints] at this
    exact this
theorem pad_splice (n : Nat) (b : List Int) : splice (nots n) 0 (b.take n) = padTo n b := by
  simp only [splice, padTo, List.take_zero, List.nil_append, Nat.zero_add, nots, List.drop_replicate, List.length_take]
  congr 2; omega
theorem mix_head {a b : List Int} {n k : Nat} (hn : a.length = n) (hk : k ≤ n) : splice (padTo n b) 0 ((a.take k).take n) = mixOf a b k true := by
  subst hn
  simp only [splice, mixOf, if_true, List.take_zero, List.nil_append, Nat.zero_add, List.length_take]
  rw [List.take_of_length_le (by rw [List.length_take]; omega), show min a.length (min k a.length) = k by omega]
theorem mix_tail {a b : List Int} {n k : Nat} (hn : a.length = n) (hk : k ≤ n) : splice (padTo n b) k ((a.drop k).take (n - k)) = mixOf a b k false := by
  subst hn
  have h1 : (padTo a.length b).drop (k + (a.drop k).length) = [] := List.drop_of_length_le (by rw [padTo_length, List.length_drop]; omega)
  rw [List.take_of_length_le (by rw [List.length_drop]; omega), splice, h1, List.append_nil]
  rfl
theorem mix_tail0 {a b : List Int} {n : Nat} (hn : a.length = n) : splice (padTo n b) 0 (a.take n) = mixOf a b 0 false := by
  have := mix_tail (b := b) hn (Nat.zero_le n)
  rwa [List.drop_zero] at this
theorem mix_tailn {a b : List Int} {n : Nat} (hn : a.length = n) : splice (padTo n b) n (([] : List Int).take 0) = mixOf a b n false := by
  have := mix_tail (b := b) hn (Nat.le_refl n)
  rw [List.drop_of_length_le (by omega)] at this
  rw [← this, Nat.sub_self]
theorem mixOf_length {a b : List Int} {k : Nat} {head : Bool} (hk : k ≤ a.length) : (mixOf a b k head).length = a.length := by
  unfold mixOf
  have := padTo_length a.length b
  split <;> simp only [List.length_append, List.length_take, List.length_drop] <;> omega
theorem padTo_range {b : List Int} (n : Nat) (h : ∀ x ∈ b, 0 ≤ x ∧ x < 256) : ∀ x ∈ padTo n b, 0 ≤ x ∧ x < 256 := by
  intro x hx
  rw [padTo, List.mem_append] at hx
  rcases hx with h1 | h1
  · exact h x (List.mem_of_mem_take h1)
  · have := List.eq_of_mem_replicate h1; omega
theorem mixOf_range {a b : List Int} (k : Nat) (head : Bool) (ha : ∀ x ∈ a, 0 ≤ x ∧ x < 256) (hb : ∀ x ∈ b, 0 ≤ x ∧ x < 256) : ∀ x ∈ mixOf a b k head, 0 ≤ x ∧ x < 256 := by
  intro x hx
  have hp := padTo_range a.length hb
  unfold mixOf at hx
  split at hx <;> rw [List.mem_append] at hx <;> rcases hx with h | h
  · exact ha x (List.mem_of_mem_take h)
  · exact hp x (List.mem_of_mem_drop h)
  · exact hp x (List.mem_of_mem_take h)
  · exact ha x (List.mem_of_mem_drop h)

end Go.Proofs.Ytpllifppjlakpaa
