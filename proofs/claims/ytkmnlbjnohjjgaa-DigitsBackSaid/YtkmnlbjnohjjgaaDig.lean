/-
  digits.Number: worth, the marks, the closure.
-/
import Derived.Test.YtkmnlbjnohjjgaaProg
import Derived.WalkKit
import Derived.WideMake
import Derived.Laws.RangeAny
namespace Go.Proofs.Ytkmnlbjnohjjgaa
open Go.RowKit

def worthR (c : Int) : Int := if 48 ≤ c ∧ c ≤ 57 then c - 48 else if 65 ≤ c ∧ c ≤ 90 then c - 55 else if 97 ≤ c ∧ c ≤ 122 then c - 87 else 36
theorem wrap64_of {z : Int} (h0 : -9223372036854775808 ≤ z) (h1 : z ≤ 9223372036854775807) : wrap64 z = z := IntWalk.wrap64_in z ⟨h0, h1⟩
theorem and31_up' : ∀ k : Nat, k < 26 → bits BinOp.and IntKind.i32 ((65 + k : Nat) : Int) 31 = ((1 + k : Nat) : Int) := by decide +kernel
theorem and31_low' : ∀ k : Nat, k < 26 → bits BinOp.and IntKind.i32 ((97 + k : Nat) : Int) 31 = ((1 + k : Nat) : Int) := by decide +kernel
theorem and31_up {c : Int} (h0 : 65 ≤ c) (h1 : c ≤ 90) : bits BinOp.and IntKind.i32 c 31 = c - 64 := by
  have := and31_up' (c - 65).toNat (by omega)
  rw [show ((65 + (c - 65).toNat : Nat) : Int) = c by omega] at this
  omega
theorem and31_low {c : Int} (h0 : 97 ≤ c) (h1 : c ≤ 122) : bits BinOp.and IntKind.i32 c 31 = c - 96 := by
  have := and31_low' (c - 97).toNat (by omega)
  rw [show ((97 + (c - 97).toNat : Nat) : Int) = c by omega] at this
  omega

theorem worth_any (c : Int) (h0 : 0 ≤ c) (h1 : c ≤ 2147483647) (w : World) :
    Calls Try.prog 18 #[.int .i32 c] w fun e w' => e = .returned (.int .i64 (worthR c)) ∧ w = w' := by
  have hs : c < 48 ∨ 48 ≤ c ∧ c ≤ 57 ∨ 57 < c ∧ c < 65 ∨ 65 ≤ c ∧ c ≤ 90 ∨ 90 < c ∧ c < 97 ∨ 97 ≤ c ∧ c ≤ 122 ∨ 122 < c := by omega
  rcases hs with s0 | ⟨s0, s1⟩ | ⟨s0, s1⟩ | ⟨s0, s1⟩ | ⟨s0, s1⟩ | ⟨s0, s1⟩ | s0
  · have e : worthR c = 36 := by unfold worthR; repeat' split <;> omega
    rw [e]
    go_enter Try.func18, Try.ntmps18
    go_wp2
    go_ret
    exact ⟨rfl, rfl⟩
  · have e : worthR c = c - 48 := by unfold worthR; repeat' split <;> omega
    rw [e]
    go_enter Try.func18, Try.ntmps18
    go_wp2
    go_ret
    exact ⟨rfl, rfl⟩
  · have e : worthR c = 36 := by unfold worthR; repeat' split <;> omega
    rw [e]
    go_enter Try.func18, Try.ntmps18
    go_wp2
    go_ret
    exact ⟨rfl, rfl⟩
  · have e : worthR c = c - 64 + 9 := by unfold worthR; repeat' split <;> omega
    rw [e]
    have ha := and31_up s0 s1
    go_enter Try.func18, Try.ntmps18
    go_wp2
    go_ret
    exact ⟨rfl, rfl⟩
  · have e : worthR c = 36 := by unfold worthR; repeat' split <;> omega
    rw [e]
    go_enter Try.func18, Try.ntmps18
    go_wp2
    go_ret
    exact ⟨rfl, rfl⟩
  · have e : worthR c = c - 96 + 9 := by unfold worthR; repeat' split <;> omega
    rw [e]
    have ha := and31_low s0 s1
    go_enter Try.func18, Try.ntmps18
    go_wp2
    go_ret
    exact ⟨rfl, rfl⟩
  · have e : worthR c = 36 := by unfold worthR; repeat' split <;> omega
    rw [e]
    go_enter Try.func18, Try.ntmps18
    go_wp2
    go_ret
    exact ⟨rfl, rfl⟩

/-! ### the map of marks -/
def markMap : Array MapEntry := #[⟨.int .u8 35, .int .i64 10, 0⟩, ⟨.int .u8 36, .int .i64 16, 1⟩, ⟨.int .u8 37, .int .i64 2, 2⟩]
def markOf (c : Int) : Int := if c = 35 then 10 else if c = 36 then 16 else if c = 37 then 2 else 0
theorem alloc_set (w : World) (o o' : Obj) : { w.alloc o with heap := (w.alloc o).heap.setIfInBounds w.heap.size o' } = w.alloc o' := by
  simp only [World.alloc]
  congr 1
  apply Array.ext'
  simp [Array.setIfInBounds, Array.toList_push]
theorem key_ok (c : Int) (w : World) (b : Bool) : (Instr.checkKey b 10000 5 (.int .u8 c)).run Try.prog w = .ok () w := by
  exact MapKept.run_checkKey (k := .int .u8 c) Try.underlying5 (by simp [MapKept.IsKey]) b 9999
theorem run_ins (w : World) (es : Array MapEntry) (clock : Nat) (k v : Int) (hf : Instr.findNow (.int .u8) (.int .u8 k) es.toList 0 = some none) :
    (Instr.mapUpdate 33 (.map (some w.heap.size)) (.int .u8 k) (.int .i64 v)).run Try.prog (w.alloc (.map es clock)) = .ok () (w.alloc (.map (es.push ⟨.int .u8 k, .int .i64 v, clock⟩) (clock + 1))) := by
  have hb : (w.alloc (.map es clock)).heap[w.heap.size]? = some (.map es clock) := heap_alloc_new w _
  have h : (Instr.mapUpdate 33 (.map (some w.heap.size)) (.int .u8 k) (.int .i64 v)).run Try.prog (w.alloc (.map es clock)) = .ok () { w.alloc (.map es clock) with heap := (w.alloc (.map es clock)).heap.setIfInBounds w.heap.size (.map (es.push ⟨.int .u8 k, .int .i64 v, clock⟩) (clock + 1)) } := by
    simp [Instr.mapUpdate, run_underlying Try.underlying33, MapKept.run_getObj_map hb, key_ok, MapKept.run_findKey Try.underlying5 hf, MapKept.run_setObj_map _ hb, Result.andThen]
  rwa [alloc_set] at h
theorem run_mark (w : World) (b clock : Nat) (c : Int) (hb : w.heap[b]? = some (.map markMap clock)) : (Instr.lookup 33 (.map (some b)) (.int .u8 c) false).run Try.prog w = .ok (.int .i64 (markOf c)) w := by
  have hz : (zeroValue 2).run Try.prog w = .ok (.int .i64 0) w := by kernel_rfl
  have hf : Instr.findNow (.int .u8) (.int .u8 c) markMap.toList 0 = some (if c = 35 then some (0, .int .i64 10) else if c = 36 then some (1, .int .i64 16) else if c = 37 then some (2, .int .i64 2) else none) := by
    simp only [markMap, Instr.findNow, Instr.sameNow, if_true]
    by_cases h1 : c = 35
    · subst h1; rfl
    · rw [show (c == 35) = false by simpa using h1, if_neg h1]
      by_cases h2 : c = 36
      · subst h2; rfl
      · rw [show (c == 36) = false by simpa using h2, if_neg h2]
        by_cases h3 : c = 37
        · subst h3; rfl
        · rw [show (c == 37) = false by simpa using h3, if_neg h3]
  simp only [Instr.lookup, run_underlying Try.underlying33, MapKept.run_getObj_map hb, key_ok, MapKept.run_findKey Try.underlying5 hf, Sem.run_bind, Result.andThen, Sem.run_pure]
  unfold markOf
  by_cases h1 : c = 35
  · simp [h1]
  · by_cases h2 : c = 36
    · simp [h2]
    · by_cases h3 : c = 37
      · simp [h3]
      · simp [h1, h2, h3, hz, Result.andThen]
theorem marks_any (w : World) : Calls Try.prog 17 #[] w fun e w' => e = .returned (.map (some w.heap.size)) ∧ w' = w.alloc (.map markMap 3) := by
  have h1 := fun es clock k v hf => run_ins w es clock k v hf
  go_enter Try.func17, Try.ntmps17
  have e0 := run_makeMap_plain (P := Try.prog) w 33
  have e1 := run_ins w #[] 0 35 10 rfl
  have e2 := run_ins w #[⟨.int .u8 35, .int .i64 10, 0⟩] 1 36 16 rfl
  have e3 := run_ins w #[⟨.int .u8 35, .int .i64 10, 0⟩, ⟨.int .u8 36, .int .i64 16, 1⟩] 2 37 2 rfl
  simp only [List.push_toArray, List.nil_append, List.cons_append] at e1 e2 e3
  go_wp2
  go_ret
  exact ⟨rfl, rfl⟩
end Go.Proofs.Ytkmnlbjnohjjgaa
