/-
  SourceJoins: a []string argument, opened; a []byte argument, opened.
-/
import Derived.Test.YtkdmjkknkefemaaJoinPlain
import Derived.Test.YtkdmjkknkefemaaRows
import Derived.SliceStrings
import Derived.SizedLaws
import Derived.ProofKit
import Derived.OpenShut
namespace Go.Proofs.Ytkdmjkknkefemaa
open Go.RowKit Go.ChangeShapes Go.WideShapes Go.ChangeAt
set_option linter.unusedVariables false

def StrsAt (w : World) (B : Nat) (A : Option Addr) (n : Nat) (ws : List ByteArray) : Prop :=
  ws.length = n ∧ (∀ x ∈ ws, x.size ≤ 9223372036854775807) ∧ (0 < n → ∃ b off, A = some ⟨b, off, none⟩ ∧ b < B ∧ ∀ i, i < n → w.cell? ⟨b, off + i, none⟩ = some (.string (ws[i]?.getD ⟨#[]⟩)))
theorem StrsAt.below {w w' : World} {B : Nat} {A : Option Addr} {n : Nat} {ws : List ByteArray} (h : StrsAt w B A n ws) (hb : Below B w w') : StrsAt w' B A n ws := by
  refine ⟨h.1, h.2.1, fun h0 => ?_⟩
  obtain ⟨b, off, rfl, hlt, hc⟩ := h.2.2 h0
  exact ⟨b, off, rfl, hlt, fun i hi => (hb.cell (p := ⟨b, off + i, none⟩) hlt).trans (hc i hi)⟩
theorem strs_open {H : Type} {enc : TypeId × Value → H} {W : World} {a : Option Addr} {len cap : Nat} {d : DataW H} {p : List MemPlace}
    (h : DataW.Trod enc Try.prog W 0 (fun _ => true) true 34 (.slice a len cap) d p) : ∃ ws, StrsAt W W.heap.size a len ws ∧ len ≤ cap := by
  obtain ⟨fuel, hf⟩ := h
  rcases Go.ChangeShapes.open_strings Try.underlying34 Try.underlying9 (by kernel_rfl) hf with ⟨hcs, _⟩ | ⟨x, l, c, ss, hcs, _, hl, hm, hz, hx, hcell, hsz⟩
  · simp [Value.cells] at hcs
    obtain ⟨rfl, rfl, rfl⟩ := hcs
    exact ⟨[], ⟨rfl, by simp, by omega⟩, by omega⟩
  · simp [Value.cells] at hcs
    obtain ⟨rfl, rfl, rfl⟩ := hcs
    simp only [if_true] at hz
    refine ⟨ss.take len, ⟨by rw [List.length_take]; omega, fun y hy => hsz y (List.mem_of_mem_take hy), fun h0 => ?_⟩, by omega⟩
    obtain ⟨b, off, spot⟩ := x
    have hc0 := hcell 0 (by omega)
    have hspot : spot = none := by simpa [Addr.add] using World.cell?_spot hc0
    subst hspot
    refine ⟨b, off, rfl, (World.block_lt_of_cell? W _ hc0 : _), fun i hi => ?_⟩
    have hci := hcell i (by omega)
    rw [Addr.add_mid] at hci
    rw [hci, List.getElem?_take_of_lt hi, List.getD_eq_getElem?_getD]
    rfl
end Go.Proofs.Ytkdmjkknkefemaa
