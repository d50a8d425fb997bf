/-
  disk: what a disk is in memory; New; the small functions.
-/
import Derived.Test.YtpllifppjlakpaaMixB
import Derived.Deep.MidRow
import Derived.Maps.OwnOps
import Derived.Maps.RangeWalk
import Derived.Lib.Hide
import Derived.WideMake
namespace Go.Proofs.Ytpllifppjlakpaa.Dk
open Go.RowKit Go.Shelf Go.Proofs.Ytpllifppjlakpaa
attribute [local go_sem] Oper.semAt_some
set_option linter.unusedVariables false
set_option linter.unusedSimpArgs false

def isBytes (l : List Int) : Prop := ∀ x ∈ l, 0 ≤ x ∧ x < 256
/-- The i-th sector of the bytes L. -/
def secOf (L : List Int) (i : Nat) : List Int := (L.drop (64 * i)).take 64
def isSec (x : List Int) : Prop := x.length = 64 ∧ isBytes x
/-- How a sector reads, in words of the map's laws. -/
def encS (xs : List Int) : DataW Unit := .agg (xs.map fun x => .lit (.int .u8 x))
open Classical in
noncomputable def Rsec (v : Value) : Option (DataW Unit × List MemPlace) := if h : ∃ xs, v = .agg (ints .u8 xs) ∧ isSec xs then some (encS h.choose, []) else none
theorem Rsec_mk {xs : List Int} (h : isSec xs) : Rsec (.agg (ints .u8 xs)) = some (encS xs, []) := by
  unfold Rsec
  have hx : ∃ ys, Value.agg (ints .u8 xs) = .agg (ints .u8 ys) ∧ isSec ys := ⟨xs, rfl, h⟩
  rw [dif_pos hx]
  have := hx.choose_spec.1
  injection this with this
  rw [← ints_inj this]
theorem Rsec_inv {v : Value} {y : DataW Unit × List MemPlace} (h : Rsec v = some y) : ∃ xs, v = .agg (ints .u8 xs) ∧ isSec xs ∧ y = (encS xs, []) := by
  unfold Rsec at h
  split at h
  · rename_i hx
    exact ⟨hx.choose, hx.choose_spec.1, hx.choose_spec.2, (Option.some.inj h).symm⟩
  · cases h
theorem key3 : Go.Maps.Keyed Try.prog 3 := Go.Maps.int_keyed Try.underlying3
/-- The cache: the map in block g holds just what C says. -/
def CacheAt (W : World) (g n : Nat) (C : Int → Option (List Int)) : Prop :=
  ∃ D : DataW Unit, W.ownsMap Try.prog 3 Rsec g n D ∧ ∀ (k : Int), (Lit.int .i64 k).wf = true → ∀ zd, D.atKey (.int .i64 k) zd = ((C k).map encS).getD zd
structure Dk where
  n : Nat
  L : List Int
  C : Int → Option (List Int)
  Q : List (Nat × List Int)
  armed : Int
  acts : Int
  off : Bool
structure DkOk (s : Dk) : Prop where
  n : s.n ≤ 2000
  len : s.L.length = 64 * s.n
  bytes : isBytes s.L
  cache : ∀ k x, s.C k = some x → 0 ≤ k ∧ k < s.n ∧ isSec x
  queue : ∀ q ∈ s.Q, q.1 < s.n ∧ isSec q.2
  room : s.Q.length ≤ 1954687338211
  armed : -1 ≤ s.armed ∧ s.armed ≤ 9223372036854775807
  acts : -9223372036854775808 ≤ s.acts ∧ s.acts ≤ 9223372036854775807
/-- A waiting write's cells. -/
def waitCells (q : Nat × List Int) : List Value := .int .i64 (q.1 : Int) :: q.2.map (Value.int .u8)
/-- The disk s lies at block d; its blocks are F's. -/
def DiskAt (F : Nat → Prop) (W : World) (d : Nat) (s : Dk) : Prop :=
  DkOk s ∧ (∀ b, F b → b < W.heap.size) ∧ F d ∧ ∃ gL gM vQ, F gL ∧ F gM ∧ (∀ k, vQ.ownBlock = some k → F k) ∧
    W.heap[d]? = some (.cells #[.slice (some ⟨gL, 0, none⟩) s.n s.n, .map (some gM), vQ, .int .i64 s.armed, .int .i64 s.acts, .bool s.off] 58 (0, 0)) ∧
    W.heap[gL]? = some (.cells (ints .u8 s.L) 65 (0, 0)) ∧ CacheAt W gM s.Q.length s.C ∧ W.ownsRow 0 68 65 vQ s.Q.length (s.Q.flatMap waitCells)
/-- Nothing outside F's blocks has turned. -/
structure Keeps (F : Nat → Prop) (w w' : World) : Prop where
  os : w'.os = w.os
  tape : w'.tape = w.tape
  output : w'.output = w.output
  size : w.heap.size ≤ w'.heap.size
  block : ∀ k, k < w.heap.size → ¬ F k → w'.heap[k]? = w.heap[k]?
theorem Keeps.below {F : Nat → Prop} {w w' : World} {B : Nat} (h : Keeps F w w') (hF : ∀ b, F b → B ≤ b) (hB : B ≤ w.heap.size) : Below B w w' :=
  ⟨h.os, h.tape, h.output, h.size, fun k hk => h.block k (by omega) (fun hf => by have := hF k hf; omega)⟩
theorem Keeps.of_below {F : Nat → Prop} {w w' : World} (h : Below w.heap.size w w') : Keeps F w w' := ⟨h.os, h.tape, h.output, h.size, fun k hk _ => h.block k hk⟩
/-- A disk that is left alone. -/
theorem CacheAt.kept {W W' : World} {g n : Nat} {C : Int → Option (List Int)} (h : CacheAt W g n C) (hs : W.heap.size ≤ W'.heap.size) (hb : W'.heap[g]? = W.heap[g]?) : CacheAt W' g n C := by
  obtain ⟨D, ⟨es, clock, h1, h2⟩, h3⟩ := h
  exact ⟨D, ⟨es, clock, hb.trans h1, h2⟩, h3⟩
theorem ownsRow_same {W W' : World} {v : Value} {n : Nat} {cs : List Value} {b0 e sz : Nat} (h : W.ownsRow b0 e sz v n cs) (hb : ∀ k, v.ownBlock = some k → k < W.heap.size → W'.heap[k]? = W.heap[k]?) : W'.ownsRow b0 e sz v n cs := by
  obtain ⟨h1, h2⟩ := h
  refine ⟨h1, ?_⟩
  rcases h2 with h2 | ⟨g, cap, cur, rfl, hg, hh, r⟩
  · exact .inl h2
  · exact .inr ⟨g, cap, cur, rfl, hg, (hb g (by simp [Value.ownBlock]) (blk_lt hh)).trans hh, r⟩
theorem DiskAt.keep {F : Nat → Prop} {W W' : World} {d : Nat} {s : Dk} (h : DiskAt F W d s) (hs : W.heap.size ≤ W'.heap.size) (hb : ∀ b, F b → W'.heap[b]? = W.heap[b]?) : DiskAt F W' d s := by
  obtain ⟨h0, h1, h2, gL, gM, vQ, a1, a2, a3, a4, a5, a6, a7⟩ := h
  exact ⟨h0, fun b hf => Nat.lt_of_lt_of_le (h1 b hf) hs, h2, gL, gM, vQ, a1, a2, a3, (hb d h2).trans a4, (hb gL a1).trans a5, a6.kept hs (hb gM a2), ownsRow_same a7 (fun k hk _ => hb k (a3 k hk))⟩
theorem DiskAt.below {F : Nat → Prop} {W W' : World} {d : Nat} {s : Dk} (h : DiskAt F W d s) (hb : Below W.heap.size W W') : DiskAt F W' d s := h.keep hb.size (fun b hf => hb.block b (h.2.1 b hf))
theorem DiskAt.apart {F G : Nat → Prop} {W W' : World} {d : Nat} {s : Dk} (h : DiskAt F W d s) (hk : Keeps G W W') (hd : ∀ b, F b → ¬ G b) : DiskAt F W' d s := h.keep hk.size (fun b hf => hk.block b (h.2.1 b hf) (hd b hf))

theorem info65 : (Try.prog.info? 65).map (fun i => (i.zero, i.size, i.bytes)) = some (some (.agg (ints .u8 (nots 64))), 64, 64) := by kernel_rfl
theorem make_secs (n : Nat) (hn : n ≤ 2000) (w : World) : (Instr.makeSlice 52 (.int .i64 (n : Int)) (.int .i64 (n : Int))).run Try.prog w = .ok (.slice (some ⟨w.heap.size, 0, none⟩) n n) (w.alloc (.cells (ints .u8 (nots (64 * n))) 65)) := by
  obtain ⟨i0, hi, hz0, hz1, hz2⟩ := info_parts info65
  have h := run_make (P := Try.prog) w 52 65 i0 (.agg (ints .u8 (nots 64))) Try.underlying52 hi hz0 .i64 .i64 (n : Int) (n : Int) (by omega) (by omega) (by rw [hz2]; omega) (by omega)
  have hc : ∀ m, madeCells (Value.agg (ints .u8 (nots 64))).cells m = ints .u8 (nots m) := by
    intro m
    have hs : (Value.agg (ints .u8 (nots 64))).cells = ints .u8 (nots 64) := rfl
    have h64 : (ints .u8 (nots 64)).size = 64 := by rw [ints_size]; simp [nots]
    have hg : ∀ i, i < 64 → (ints .u8 (nots 64))[i]! = .int .u8 0 := fun i hi => by
      have h9 := ints_get .u8 (nots 64) i
      unfold nots at h9
      rw [List.getElem?_replicate, if_pos hi] at h9
      unfold nots
      rw [getElem!_def, h9]
      rfl
    rw [hs]
    apply Array.ext_getElem?
    intro j
    rw [ints_get]
    unfold madeCells
    rw [h64, Array.getElem?_map]
    have hr : (nots m)[j]? = if j < m then some 0 else none := by unfold nots; rw [List.getElem?_replicate]
    rw [hr]
    by_cases hj : j < m
    · rw [Array.getElem?_eq_getElem (by simpa using hj), if_pos hj]
      simp only [Array.getElem_range, Option.map_some, hg (j % 64) (Nat.mod_lt _ (by decide))]
    · rw [Array.getElem?_eq_none (by simp; omega), if_neg hj]
      rfl
  rw [h, Int.toNat_natCast, hz1, hc, Nat.mul_comm n 64]
def newDk (k : Int) : Dk := { n := (min (max k 0) 2000).toNat, L := nots (64 * (min (max k 0) 2000).toNat), C := fun _ => none, Q := [], armed := -1, acts := 0, off := false }
theorem nots_bytes (n : Nat) : isBytes (nots n) := by
  intro x hx
  have := List.eq_of_mem_replicate hx
  omega
theorem cache_made (w : World) : CacheAt (w.alloc (.map #[] 0)) w.heap.size 0 (fun _ => none) :=
  ⟨.map [], World.ownsMap_made w Try.prog 3 Rsec, fun k _ zd => rfl⟩
theorem new_ok (k : Int) : DkOk (newDk k) :=
  ⟨by show (min (max k 0) 2000).toNat ≤ 2000; omega, by show (nots (64 * _)).length = 64 * _; simp [nots]; rfl, nots_bytes _, fun k x h => (by cases h), fun q h => absurd h (List.not_mem_nil), Nat.zero_le _, ⟨show (-1 : Int) ≤ -1 by decide, show (-1 : Int) ≤ 9223372036854775807 by decide⟩, ⟨show (-9223372036854775808 : Int) ≤ 0 by decide, show (0 : Int) ≤ 9223372036854775807 by decide⟩⟩
theorem new_at (k : Int) (w : World) (n : Nat) (hn : (min (max k 0) 2000).toNat = n) : ∃ F : Nat → Prop, (∀ b, F b → w.heap.size ≤ b) ∧
    DiskAt F (((w.alloc (.cells (ints .u8 (nots (64 * n))) 65)).alloc (.map #[] 0)).alloc (.cells #[.slice (some ⟨w.heap.size, 0, none⟩) n n, .map (some (w.heap.size + 1)), .slice none 0 0, .int .i64 (-1), .int .i64 0, .bool false] 58)) (w.heap.size + 2) (newDk k) := by
  subst hn
  refine ⟨fun b => w.heap.size ≤ b ∧ b < w.heap.size + 3, fun b h => h.1, new_ok k, fun b h => by simp; omega, by omega, w.heap.size, w.heap.size + 1, .slice none 0 0, by omega, by omega, fun k h => by simp [Value.ownBlock] at h, ?_, ?_, ?_, ?_⟩
  · exact blk_new _ _ (by simp)
  · exact blk_alloc (blk_alloc (heap_alloc_new _ _) _) _
  · have := cache_made (w.alloc (.cells (ints .u8 (nots (64 * (min (max k 0) 2000).toNat))) 65))
    have e : (w.alloc (.cells (ints .u8 (nots (64 * (min (max k 0) 2000).toNat))) 65)).heap.size = w.heap.size + 1 := by simp
    rw [e] at this
    exact this.kept (by simp) (Below.heap_alloc _ _ _ (by simp))
  · exact World.ownsRow_nil _ _ _ _
theorem new_any (k : Int) (h0 : -9223372036854775808 ≤ k) (h1 : k ≤ 9223372036854775807) (w : World) :
    Calls Try.prog 18 #[.int .i64 k] w fun e w' => Below w.heap.size w w' ∧ ∃ d F, e = .returned (.pointer (some ⟨d, 0, none⟩)) ∧ (∀ b, F b → w.heap.size ≤ b) ∧ DiskAt F w' d (newDk k) := by
  have hmm := fun w => Go.run_makeMap_plain (P := Try.prog) w 53
  rcases (by omega : k < 0 ∨ 0 ≤ k) with hk | hk
  · have hmk : ∀ w : World, (Instr.makeSlice 52 (.int .i64 0) (.int .i64 0)).run Try.prog w = .ok (.slice (some ⟨w.heap.size, 0, none⟩) 0 0) (w.alloc (.cells (ints .u8 (nots (64 * 0))) 65)) := fun w => make_secs 0 (by decide) w
    obtain ⟨F, hF, hD⟩ := new_at k w 0 (by omega)
    go_enter Try.func18, Try.ntmps18
    go_wp2_with fail
    go_ret
    first | exact ⟨(((Below.refl _ _).alloc (Nat.le_refl _) _).alloc (by simp) _).alloc (by simp; omega) _, _, F, rfl, hF, hD⟩ | exact ⟨(((Below.refl _ _).alloc (Nat.le_refl _) _).alloc (by simp) _).alloc (by simp; omega) _, _, rfl, F, hF, hD⟩
  · rcases (by omega : 2000 < k ∨ k ≤ 2000) with hk2 | hk2
    · have hmk : ∀ w : World, (Instr.makeSlice 52 (.int .i64 2000) (.int .i64 2000)).run Try.prog w = .ok (.slice (some ⟨w.heap.size, 0, none⟩) 2000 2000) (w.alloc (.cells (ints .u8 (nots (64 * 2000))) 65)) := fun w => make_secs 2000 (by decide) w
      obtain ⟨F, hF, hD⟩ := new_at k w 2000 (by omega)
      generalize ints .u8 (nots (64 * 2000)) = cs at *
      have hk3 : ¬ k < 0 := by omega
      go_enter Try.func18, Try.ntmps18
      go_wp2_with fail
      go_ret
      first | exact ⟨(((Below.refl _ _).alloc (Nat.le_refl _) _).alloc (by simp) _).alloc (by simp; omega) _, _, F, rfl, hF, hD⟩ | exact ⟨(((Below.refl _ _).alloc (Nat.le_refl _) _).alloc (by simp) _).alloc (by simp; omega) _, _, rfl, F, hF, hD⟩
    · obtain ⟨n, rfl⟩ := Int.eq_ofNat_of_zero_le hk
      have hmk : ∀ w : World, (Instr.makeSlice 52 (.int .i64 (n : Int)) (.int .i64 (n : Int))).run Try.prog w = .ok (.slice (some ⟨w.heap.size, 0, none⟩) n n) (w.alloc (.cells (ints .u8 (nots (64 * n))) 65)) := fun w => make_secs n (by omega) w
      obtain ⟨F, hF, hD⟩ := new_at (n : Int) w n (by omega)
      have hk3 : ¬ (n : Int) < 0 := by omega
      have hk4 : ¬ (2000 : Int) < (n : Int) := by omega
      go_enter Try.func18, Try.ntmps18
      go_wp2_with fail
      go_ret
      first | exact ⟨(((Below.refl _ _).alloc (Nat.le_refl _) _).alloc (by simp) _).alloc (by simp; omega) _, _, F, rfl, hF, hD⟩ | exact ⟨(((Below.refl _ _).alloc (Nat.le_refl _) _).alloc (by simp) _).alloc (by simp; omega) _, _, rfl, F, hF, hD⟩
end Go.Proofs.Ytpllifppjlakpaa.Dk
