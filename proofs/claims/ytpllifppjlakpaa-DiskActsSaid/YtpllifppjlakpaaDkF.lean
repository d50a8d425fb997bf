/-
  disk: clear; a sector stored, copied; what a restart leaves.
-/
import Derived.Test.YtpllifppjlakpaaDkE
import Derived.Deep.RegionHeld
namespace Go.Proofs.Ytpllifppjlakpaa.Dk
open Go.RowKit Go.Shelf Go.Proofs.Ytpllifppjlakpaa
attribute [local go_sem] Oper.semAt_some
set_option linter.unusedVariables false
set_option linter.unusedSimpArgs false
section
variable {P : Program} {o : Oper} {a : Act} {w w' : World} {v : Value}
theorem exec_load {ty : TypeId} {x : Operand} {p : Value} (ho : o.op = .load ty x) (hx : a.eval x = p) (h : (Instr.loadAt ty p).run P w = .ok v w') : (execOp a.eval o).run P w = .ok (.value v) w' := by
  unfold execOp
  simp only [ho, hx, Sem.run_bind, h, Result.andThen_ok, Sem.run_pure]
theorem runs_copy {t t' : TypeId} {s x : Operand} {sv xv : Value} (ho : o.op = .call { callee := .builtin .copy, args := #[s, x], argTypes := #[t, t'] }) (hs : a.eval s = sv) (hx : a.eval x = xv) (h : (Builtin.copy_ #[t, t'] o.type #[sv, xv]).run P w = .ok v w') : Runs P a o w v w' := by
  left
  unfold execOp
  simp only [ho, resolve, invoke, builtin, Sem.run_bind, Sem.run_pure, Result.andThen_ok, List.map_toArray, List.map_cons, List.map_nil, hs, hx, h]
theorem runs_clear {t : TypeId} {s : Operand} {sv : Value} (ho : o.op = .call { callee := .builtin .clear, args := #[s], argTypes := #[t] }) (hs : a.eval s = sv) (h : (Builtin.clear_ #[t] o.type #[sv]).run P w = .ok v w') : Runs P a o w v w' := by
  left
  unfold execOp
  simp only [ho, resolve, invoke, builtin, Sem.run_bind, Sem.run_pure, Result.andThen_ok, List.map_toArray, List.map_cons, List.map_nil, hs, h]
end
/-- A sector stored into the middle of a block. -/
theorem run_store_sec {W : World} {g : Nat} {L x : List Int} {i : Nat} {t : TypeId} (hg : W.heap[g]? = some (.cells (ints .u8 L) t (0, 0))) (hi : 64 * i + 64 ≤ L.length) (hx : x.length = 64) :
    (Instr.storeAt 65 (.pointer (some ⟨g, 64 * i, none⟩)) (.agg (ints .u8 x))).run Try.prog W = .ok () (W.setRow g (ints .u8 (splice L (64 * i) x))) := by
  have hst := run_storeCells_at Try.prog g (64 * i) t (x.map (Value.int .u8)) 0 (ints .u8 L) W hg (by rw [ints_size]; simp [hx]; omega) (fun v hv => by obtain ⟨y, _, rfl⟩ := List.mem_map.1 hv; rfl)
  simp only [Instr.storeAt, Instr.sureAddr, Sem.run_bind, Sem.run_pure, Result.andThen_ok]
  cases hq : Try.prog.info? 65 with
  | none =>
    have := size65 (n := 64) rfl
    rw [hq] at this
    cases this
  | some i9 =>
    have hs : i9.size = 64 := by
      have := size65 (n := 64) rfl
      rw [hq] at this
      simpa using this
    have hcl : (Value.agg (ints .u8 x)).cells.toList = x.map (Value.int .u8) := by simp [Value.cells, ints]
    have hcs : (Value.agg (ints .u8 x)).cells.size = 64 := by simp [Value.cells, ints, hx]
    have e : (((ints .u8 L).toList.take (64 * i + 0)) ++ x.map (Value.int .u8) ++ (ints .u8 L).toList.drop (64 * i + 0 + (x.map (Value.int .u8)).length)).toArray = ints .u8 (splice L (64 * i) x) := by
      simp only [ints, splice, Nat.add_zero, List.length_map, List.map_append, List.map_take, List.map_drop, List.append_assoc]
    rw [e] at hst
    simp [storeVar, sizeOf, typeInfo, hq, hs, hcl, hcs, hst]
/-- A copy into a sector. -/
theorem run_copy_sec {W : World} {g : Nat} {L cs : List Int} {i : Nat} {t ty : TypeId} (hg : W.heap[g]? = some (.cells (ints .u8 L) t (0, 0))) (hi : 64 * i + 64 ≤ L.length) {A : Option Addr} {m c dc B : Nat} (hr : BytesAt W B A m cs) (hm : 0 < m) :
    (Builtin.copy_ #[22, 22] ty #[.slice (some ⟨g, 64 * i, none⟩) 64 dc, .slice A m c]).run Try.prog W = .ok (goInt ((min m 64 : Nat) : Int)) (W.setRow g (ints .u8 (splice L (64 * i) (cs.take 64)))) := by
  obtain ⟨i0, hi0, hz0, hz1, hz2⟩ := info_parts infoU8
  obtain ⟨b, of, rfl, _, hc⟩ := hr.2.2 hm
  have hlen : ((cs.take 64).map (Value.int .u8)).length = min m 64 := by rw [List.length_map, List.length_take, hr.1, Nat.min_comm]
  have := run_copy_row (P := Try.prog) W 22 22 ty 5 g (64 * i) 64 dc ⟨b, of, none⟩ m c (ints .u8 L) t ((cs.take 64).map (Value.int .u8)) Try.underlying22 (by rw [hi0]; simp [hz1]) hg hlen (fun j v hj => by
    have hjl : j < min m 64 := by rw [← hlen]; exact (List.getElem?_eq_some_iff.1 hj).1
    rw [Addr.add_mid, hc j (by omega)]
    rw [List.getElem?_map, List.getElem?_take_of_lt (by omega)] at hj
    have hjc : j < cs.length := by rw [hr.1]; omega
    rw [List.getElem?_eq_getElem hjc] at hj ⊢
    exact hj) (by rw [hlen, ints_size]; omega) (fun v hv => by obtain ⟨y, _, rfl⟩ := List.mem_map.1 hv; rfl)
  rw [this, hlen]
  have e : ((ints .u8 L).toList.take (64 * i) ++ (cs.take 64).map (Value.int .u8) ++ (ints .u8 L).toList.drop (64 * i + min m 64)).toArray = ints .u8 (splice L (64 * i) (cs.take 64)) := by
    have hl2 : (cs.take 64).length = min m 64 := by rw [List.length_take, hr.1, Nat.min_comm]
    simp only [ints, splice, hl2, List.map_append, List.map_take, List.map_drop, List.append_assoc]
  rw [e]
theorem run_clear_map {W : World} {g n : Nat} {C : Int → Option (List Int)} (h : CacheAt W g n C) (ty : TypeId) :
    ∃ W', (Builtin.clear_ #[53] ty #[.map (some g)]).run Try.prog W = .ok (.tuple #[]) W' ∧ CacheAt W' g 0 (fun _ => none) ∧ W.grownBy W' (some g) := by
  obtain ⟨D, ⟨es, clock, hb, F, _, _⟩, _⟩ := h
  refine ⟨Go.ChangeMaps.setBlock W g (.map #[] clock), ?_, ⟨.map [], ⟨#[], clock, Go.ChangeMaps.heap_setBlock_same hb _, ⟨by simp, Go.MapKept.stamped_empty clock, by simp⟩, Nat.le_refl _, rfl⟩, fun k _ zd => rfl⟩, ?_⟩
  · simp [Builtin.clear_, run_underlying Try.underlying53, MapKept.run_getObj_map hb, MapKept.run_setObj_map _ hb, Result.andThen]
    rfl
  · exact ⟨rfl, rfl, rfl, by simp [Go.ChangeMaps.setBlock], fun i _ hi => Go.ChangeMaps.heap_setBlock_other hb _ (fun e => hi (by rw [e]))⟩
theorem clear_any (W : World) (d : Nat) (v0 v1 v2 v3 v4 v5 : Value) (h : W.heap[d]? = some (.cells #[v0, v1, v2, v3, v4, v5] 58 (0, 0))) :
    Calls Try.prog 30 #[.pointer (some ⟨d, 2, none⟩)] W fun e W' => e = .returned (.tuple #[]) ∧ W' = W.setCell ⟨d, 2, none⟩ (.slice none 0 0) := by
  have hc := (six h).2.2.1
  have hf := frozen_blk h 2
  go_enter Try.func30, Try.ntmps30
  go_wp2
  go_end0
  exact ⟨rfl, rfl⟩
end Go.Proofs.Ytpllifppjlakpaa.Dk
