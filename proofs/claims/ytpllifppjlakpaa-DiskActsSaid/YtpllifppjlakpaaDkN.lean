/-
  disk: acts that came in; few; all answers of Write and Flush.
-/
import Derived.Test.YtpllifppjlakpaaDkM
import Derived.Test.YtpllifppjlakpaaDkJ
import Derived.SizedLaws
namespace Go.Proofs.Ytpllifppjlakpaa.Dk
open Go.RowKit Go.Shelf Go.Proofs.Ytpllifppjlakpaa
attribute [local go_sem] Oper.semAt_some
set_option linter.unusedVariables false
set_option linter.unusedSimpArgs false
structure ActsAt (W : World) (A : Option Addr) (n : Nat) (l : List ActV) : Prop where
  len : l.length = n
  reach : n ≤ 1954687338211
  cells : 0 < n → ∃ b off, A = some ⟨b, off, none⟩ ∧ b < W.heap.size ∧ ∀ i (hi : i < l.length), W.rangeAt b (off + i * 7) (l[i]).cells
  ok : ∀ a ∈ l, ActOk W a
theorem pick_list {α : Type} {n : Nat} {R : Nat → α → Prop} (h : ∀ i, i < n → ∃ x, R i x) : ∃ l : List α, l.length = n ∧ ∀ i (hi : i < l.length), R i l[i] := by
  induction n with
  | zero => exact ⟨[], rfl, fun i hi => absurd hi (Nat.not_lt_zero i)⟩
  | succ n ih =>
    obtain ⟨l, hl, hr⟩ := ih (fun i hi => h i (by omega))
    obtain ⟨x, hx⟩ := h n (by omega)
    refine ⟨l ++ [x], by rw [List.length_append, hl]; rfl, fun i hi => ?_⟩
    rw [List.length_append, hl] at hi
    have hi : i < n + 1 := hi
    by_cases hin : i < n
    · rw [List.getElem_append_left (by omega)]
      exact hr i (by omega)
    · obtain rfl : i = n := by omega
      rw [List.getElem_append_right (by omega)]
      simpa [hl] using hx
open Go.ChangeShapes Go.WideShapes Go.ChangeAt in
theorem acts_open {H : Type} {enc : TypeId × Value → H} {W : World} {a : Option Addr} {len cap : Nat} {d : DataW H} {p : List MemPlace} {ts : List TypeId} {ds : List (DataW H)} {j : Nat}
    (hsz : (DataW.weightsEach Try.prog ts ds).all (· ≤ reachBytes) = true) (htj : ts[j]? = some 23) (hdj : ds[j]? = some d)
    (h : DataW.Trod enc Try.prog W 0 (fun _ => true) true 23 (.slice a len cap) d p) : ∃ l, ActsAt W a len l ∧ len ≤ cap := by
  obtain ⟨fuel, hf⟩ := h
  rcases Go.Deep.open_slice Try.underlying23 hf with ⟨hcs, _⟩ | ⟨x, l, c, m, n, D, Pl, hcs, _, hl, hm, hmm, hx, hel⟩
  · simp [Value.cells] at hcs
    obtain ⟨rfl, rfl, rfl⟩ := hcs
    exact ⟨[], ⟨rfl, by decide, fun h => absurd h (Nat.lt_irrefl 0), fun a ha => absurd ha List.not_mem_nil⟩, Nat.le_refl _⟩
  · simp [Value.cells] at hcs
    obtain ⟨rfl, rfl, rfl⟩ := hcs
    simp only [if_true] at hmm
    subst hmm
    have hd : d = _ := (Prod.mk.inj hx).1
    have hr := sized_slice hsz htj (by rw [hdj, hd]) Try.underlying23
    have hbo : Try.prog.bytesOf 32 = 72 := by kernel_rfl
    have hre : reachBytes = 140737488351232 := rfl
    rw [hbo, hre] at hr
    simp only [List.length_map, List.length_range] at hr
    have e32 : Try.prog.cellsOf 32 = 7 := by kernel_rfl
    obtain ⟨ls, hls, hrel⟩ := pick_list (n := len) (R := fun i (a : ActV) => (∀ k v, a.cells[k]? = some v → W.cell? ((x.add (i * 7)).add k) = some v) ∧ ActOk W a) (fun i hi => by
      obtain ⟨cs', h1, h2⟩ := hel i (by omega)
      rw [e32] at h1
      obtain ⟨_, hlen, hcell⟩ := World.cells?_some h1
      obtain ⟨a, rfl, hok⟩ := act_open h2
      refine ⟨a, fun k v hv => ?_, hok⟩
      have hk := (List.getElem?_eq_some_iff.1 hv).1
      have hk7 : k < 7 := by rw [← hlen]; exact hk
      have := hcell k hk7
      rw [this]
      exact hv)
    refine ⟨ls, ⟨hls, by omega, fun h0 => ?_, fun a ha => ?_⟩, hl⟩
    · obtain ⟨b, off, spot⟩ := x
      have h00 := (hrel 0 (by omega)).1 0 _ rfl
      have hspot : spot = none := by simpa [Addr.add] using World.cell?_spot h00
      subst hspot
      refine ⟨b, off, rfl, (World.block_lt_of_cell? W _ h00 : _), fun i hi k v hv => ?_⟩
      have := (hrel i hi).1 k v hv
      rw [Addr.add_mid, Addr.add_mid] at this
      exact this
    · obtain ⟨i, hi, rfl⟩ := List.getElem_of_mem ha
      exact (hrel i hi).2
theorem ActOk.below {W W' : World} {a : ActV} (h : ActOk W a) (hb : Below W.heap.size W W') : ActOk W' a :=
  ⟨(h.bytes.below hb).more hb.size, h.mc, h.n, h.torn, h.cut, h.stay⟩
theorem size32 {n : Nat} (h : n = 7) : (Try.prog.info? 32).map (·.size) = some n := by subst h; kernel_rfl
theorem cells_one (a : ActV) : ∀ u ∈ a.cells, u.oneCell' = true := by
  intro u hu
  simp only [ActV.cells, List.mem_cons, List.not_mem_nil, or_false] at hu
  rcases hu with rfl | rfl | rfl | rfl | rfl | rfl | rfl <;> rfl
theorem act_in {W : World} {a : ActV} {b : Nat} {t : TypeId} (h : W.heap[b]? = some (.cells a.cells.toArray t (0, 0))) :
    W.cell? ⟨b, 0, none⟩ = some (.int .i64 a.do_) ∧ W.cell? ⟨b, 1, none⟩ = some (.int .i64 a.n) ∧ W.cell? ⟨b, 2, none⟩ = some (.slice a.A a.m a.c) ∧ W.cell? ⟨b, 3, none⟩ = some (.int .u64 a.f.stay) ∧ W.cell? ⟨b, 4, none⟩ = some (.int .i64 a.f.torn) ∧ W.cell? ⟨b, 5, none⟩ = some (.int .i64 a.f.cut) ∧ W.cell? ⟨b, 6, none⟩ = some (.bool a.f.head) :=
  ⟨cell_of_row W _ 0 _ _ _ h, cell_of_row W _ 1 _ _ _ h, cell_of_row W _ 2 _ _ _ h, cell_of_row W _ 3 _ _ _ h, cell_of_row W _ 4 _ _ _ h, cell_of_row W _ 5 _ _ _ h, cell_of_row W _ 6 _ _ _ h⟩
theorem range_below {W W' : World} {b o : Nat} {cs : List Value} (h : W.rangeAt b o cs) (hb : Below W.heap.size W W') (hlt : b < W.heap.size) : W'.rangeAt b o cs := fun j v hv => (World.cell?_of_block (a := ⟨b, o + j, none⟩) (hb.block b hlt)).trans (h j v hv)
set_option maxHeartbeats 1000000 in
theorem few_any {W : World} {A : Option Addr} {n c : Nat} {l : List ActV} (h : ActsAt W A n l) (hc : n ≤ c) :
    Calls Try.prog 9 #[.slice A n c] W fun e W' => Below W.heap.size W W' ∧ ∃ b, e = .returned (.bool b) := by
  have hre := h.reach
  have hlen := h.len
  have hce := h.cells
  clear h
  go_enter Try.func9, Try.ntmps9
  go_wp2
  go_loopw [3, 8] (fun v3 v wr => ∃ i : Nat, i ≤ n ∧ v = .int .i64 i ∧ (∃ z, v3 = .int .i64 z) ∧ Below W.heap.size W wr) (fun _ v _ => n - (intOf v).toNat)
  case atStart => exact ⟨0, Nat.zero_le _, rfl, ⟨0, rfl⟩, Below.refl _ _⟩
  case round =>
    obtain ⟨i, hi, rfl, ⟨z, rfl⟩, hb⟩ := hrel
    by_cases hlt : i < n
    · obtain ⟨b, off, rfl, hbl, hrg⟩ := hce (by omega)
      have hr := range_below (hrg i (by omega)) hb hbl
      generalize l[i] = a at hr
      have h1 := cells_one a
      have hx := act_in (heap_alloc_last wr (.cells a.cells.toArray 32))
      obtain ⟨x0, x1, x2, -⟩ := hx
      have hbe := hb.alloc hb.size (.cells a.cells.toArray 32)
      clear hrg hce
      go_wp2_with (first | (refine wpList_load_mid rfl 32 (.tmp 10) rfl b (off + i * 7) rfl _ _ hr Try.underlying32 rfl (size32 rfl) ?_) | (refine wpL_store (by rfl) 32 (.tmp 5) (.tmp 11) rfl wr.heap.size a.cells.toArray rfl rfl 32 _ (heap_alloc_last wr _) (size32 rfl) rfl (all_oneCell_toArray h1) ?_; rw [setRow_last _ _ _ _ _ rfl]))
      exact ⟨⟨i + 1, by omega, by go_num, ⟨_, rfl⟩, hbe⟩, by simp [intOf]; omega⟩
    · go_wp2
      go_ret
      exact ⟨hb, _, rfl⟩
def writeTot (s : Dk) (n : Int) (bs : List Int) : Int × Dk :=
  if s.off = true then (20, s) else if n < 0 ∨ (s.n : Int) ≤ n ∨ bs.length ≠ 64 then (1, s) else if s.armed = 0 then (20, actDk s) else (0, writeDk s n.toNat bs)
theorem Grows.refl (F : Nat → Prop) (N : Nat) : Grows F F N := fun b h => .inl h
set_option maxHeartbeats 1000000 in
theorem write_all {F : Nat → Prop} {W : World} {d : Nat} {s : Dk} (h : DiskAt F W d s) (hQ : s.Q.length < 1954687338211) (n : Int) (hn : -9223372036854775808 ≤ n ∧ n ≤ 9223372036854775807) (A : Option Addr) (m c : Nat) (bs : List Int) (hb : BytesAt W W.heap.size A m bs) (hnA : m = 64 → ∀ b off, A = some ⟨b, off, none⟩ → ¬ F b) :
    Calls Try.prog 11 #[.pointer (some ⟨d, 0, none⟩), .int .i64 n, .slice A m c] W fun e W' => e = .returned (.int .i64 (writeTot s n bs).1) ∧ Keeps F W W' ∧ ∃ F', Grows F F' W.heap.size ∧ DiskAt F' W' d (writeTot s n bs).2 := by
  have hm := hb.1
  have hu := up_any h
  by_cases hoff : s.off = true
  · have e : writeTot s n bs = (20, s) := by unfold writeTot; rw [if_pos hoff]
    rw [e]
    rw [hoff] at hu
    go_enter Try.func11, Try.ntmps11
    go_wp2_with fail
    refine hu.mono ?_
    rintro e W' ⟨rfl, rfl⟩
    go_wp2_with fail
    go_ret
    exact ⟨rfl, Keeps.refl _ _, F, Grows.refl _ _, h⟩
  · have hof : s.off = false := by cases ho : s.off <;> simp_all
    rw [hof] at hu
    obtain ⟨-, -, -, gL0, gM0, vQ0, -, -, -, b4, -, -, -⟩ := id h
    obtain ⟨c0, -⟩ := six b4
    by_cases hr : n < 0 ∨ (s.n : Int) ≤ n ∨ bs.length ≠ 64
    · have e : writeTot s n bs = (1, s) := by unfold writeTot; rw [if_neg hoff, if_pos hr]
      rw [e]
      rw [hm] at hr
      have fin : Keeps F W W ∧ ∃ F', Grows F F' W.heap.size ∧ DiskAt F' W d s := ⟨Keeps.refl _ _, F, Grows.refl _ _, h⟩
      rcases (by omega : n < 0 ∨ (0 ≤ n ∧ (s.n : Int) ≤ n) ∨ (0 ≤ n ∧ n < (s.n : Int) ∧ m ≠ 64)) with h1 | ⟨h1, h2⟩ | ⟨h1, h2, h3⟩
      · clear hr b4 e hm h hb
        go_enter Try.func11, Try.ntmps11
        go_wp2_with fail
        refine hu.mono ?_
        rintro e W' ⟨rfl, rfl⟩
        go_wp2_with fail
        go_ret
        exact ⟨rfl, fin⟩
      · obtain ⟨k, rfl⟩ := Int.eq_ofNat_of_zero_le h1
        have h2' : s.n ≤ k := by omega
        clear hr b4 e hm h hb
        go_enter Try.func11, Try.ntmps11
        go_wp2_with fail
        refine hu.mono ?_
        rintro e W' ⟨rfl, rfl⟩
        go_wp2_with fail
        go_ret
        exact ⟨rfl, fin⟩
      · obtain ⟨k, rfl⟩ := Int.eq_ofNat_of_zero_le h1
        have h2' : k < s.n := by omega
        have h3' : ((m : Int) == 64) = false := beq_eq_false_iff_ne.2 (by omega)
        have h3'' : ((m : Int) != 64) = true := bne_iff_ne.2 (by omega)
        clear hr b4 e hm h hb
        go_enter Try.func11, Try.ntmps11
        go_wp2_with fail
        refine hu.mono ?_
        rintro e W' ⟨rfl, rfl⟩
        go_wp2_with fail
        go_ret
        exact ⟨rfl, fin⟩
    · have hr' := hr
      simp only [not_or, Int.not_lt, Int.not_le, ne_eq, Decidable.not_not] at hr'
      obtain ⟨h1, h2, h3⟩ := hr'
      obtain ⟨k, rfl⟩ := Int.eq_ofNat_of_zero_le h1
      have hk : k < s.n := by omega
      rw [hm] at h3
      subst h3
      by_cases harm : s.armed = 0
      · have e : writeTot s (k : Int) bs = (20, actDk s) := by unfold writeTot; rw [if_neg hoff, if_neg hr, if_pos harm]
        rw [e]
        have hact := act_any h
        rw [decide_eq_false (fun hh => hh harm)] at hact
        clear hr b4 e hm hb harm
        go_enter Try.func11, Try.ntmps11
        go_wp2_with fail
        refine hu.mono ?_
        rintro e W' ⟨rfl, rfl⟩
        go_wp2_with fail
        refine hact.mono ?_
        rintro e W' ⟨rfl, hD, hK⟩
        go_wp2_with fail
        go_ret
        exact ⟨rfl, hK, F, Grows.refl _ _, hD⟩
      · have e : writeTot s (k : Int) bs = (0, writeDk s k bs) := by unfold writeTot; rw [if_neg hoff, if_neg hr, if_neg harm, Int.toNat_natCast]
        rw [e]
        exact write_any h hof harm hQ k hk A c bs hb (hnA rfl)
def flushTot (s : Dk) : Int × Dk := if s.off = true then (20, s) else if s.armed = 0 then (20, actDk s) else (0, flushDk s)
theorem flush_all {F : Nat → Prop} {W : World} {d : Nat} {s : Dk} (h : DiskAt F W d s) :
    Calls Try.prog 13 #[.pointer (some ⟨d, 0, none⟩)] W fun e W' => e = .returned (.int .i64 (flushTot s).1) ∧ Keeps F W W' ∧ DiskAt F W' d (flushTot s).2 := by
  have hu := up_any h
  by_cases hoff : s.off = true
  · have e : flushTot s = (20, s) := by unfold flushTot; rw [if_pos hoff]
    rw [e]
    rw [hoff] at hu
    go_enter Try.func13, Try.ntmps13
    go_wp2_with fail
    refine hu.mono ?_
    rintro e W' ⟨rfl, rfl⟩
    go_wp2_with fail
    go_ret
    exact ⟨rfl, Keeps.refl _ _, h⟩
  · have hof : s.off = false := by cases ho : s.off <;> simp_all
    by_cases harm : s.armed = 0
    · have e : flushTot s = (20, actDk s) := by unfold flushTot; rw [if_neg hoff, if_pos harm]
      rw [e]
      rw [hof] at hu
      have hact := act_any h
      rw [decide_eq_false (fun hh => hh harm)] at hact
      clear harm e
      go_enter Try.func13, Try.ntmps13
      go_wp2_with fail
      refine hu.mono ?_
      rintro e W' ⟨rfl, rfl⟩
      go_wp2_with fail
      refine hact.mono ?_
      rintro e W' ⟨rfl, hD, hK⟩
      go_wp2_with fail
      go_ret
      exact ⟨rfl, hK, hD⟩
    · have e : flushTot s = (0, flushDk s) := by unfold flushTot; rw [if_neg hoff, if_neg harm]
      rw [e]
      exact flush_any h hof harm
end Go.Proofs.Ytpllifppjlakpaa.Dk
