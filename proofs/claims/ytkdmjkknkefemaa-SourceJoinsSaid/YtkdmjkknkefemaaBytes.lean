/-
  A []byte argument, opened.
-/
import Derived.Test.YtkdmjkknkefemaaRows
import Derived.WalkKit
import Derived.ProofKit
import Derived.OpenShut
import Derived.SizedLaws
import Derived.Below
import Derived.Deep.MidRow
namespace Go.Proofs.Ytkdmjkknkefemaa
open Go.RowKit
set_option linter.unusedVariables false
set_option linter.unusedSimpArgs false
def BytesAt (w : World) (B : Nat) (A : Option Addr) (n : Nat) (bs : List Int) : Prop :=
  bs.length = n ∧ (∀ x ∈ bs, 0 ≤ x ∧ x < 256) ∧ (0 < n → ∃ b off, A = some ⟨b, off, none⟩ ∧ b < B ∧ ∀ i, i < n → w.cell? ⟨b, off + i, none⟩ = some (.int .u8 (bs[i]?.getD 0)))
theorem BytesAt.keep {w w' : World} {B : Nat} {A : Option Addr} {n : Nat} {bs : List Int} (h : BytesAt w B A n bs) (hk : ∀ p : Addr, p.block < B → w'.cell? p = w.cell? p) : BytesAt w' B A n bs :=
  ⟨h.1, h.2.1, fun hn => by
    obtain ⟨b, off, e, hb, hc⟩ := h.2.2 hn
    exact ⟨b, off, e, hb, fun i hi => (hk _ hb).trans (hc i hi)⟩⟩
theorem BytesAt.below {w w' : World} {B : Nat} {A : Option Addr} {n : Nat} {bs : List Int} (h : BytesAt w B A n bs) (hb : Below B w w') : BytesAt w' B A n bs := h.keep fun _ hp => hb.cell hp
theorem BytesAt.more {w : World} {B B' : Nat} {A : Option Addr} {n : Nat} {bs : List Int} (h : BytesAt w B A n bs) (hB : B ≤ B') : BytesAt w B' A n bs :=
  ⟨h.1, h.2.1, fun hn => by
    obtain ⟨b, off, e, hb, hc⟩ := h.2.2 hn
    exact ⟨b, off, e, by omega, hc⟩⟩
theorem BytesAt.range {w : World} {B : Nat} {A : Option Addr} {n : Nat} {bs : List Int} (h : BytesAt w B A n bs) (i : Nat) : 0 ≤ bs[i]?.getD 0 ∧ bs[i]?.getD 0 < 256 := by
  cases hx : bs[i]? with
  | none => simp
  | some x => exact h.2.1 x (List.mem_of_getElem? hx)

section
open Go.ChangeShapes Go.WideShapes Go.ChangeAt
theorem bytes_open {H : Type} {enc : TypeId × Value → H} {W : World} {a : Option Addr} {len cap : Nat} {d : DataW H} {p : List MemPlace} {ts : List TypeId} {ds : List (DataW H)} {j : Nat}
    (hsz : (DataW.weightsEach Try.prog ts ds).all (· ≤ reachBytes) = true) (htj : ts[j]? = some 35) (hdj : ds[j]? = some d)
    (h : DataW.Trod enc Try.prog W 0 (fun _ => true) true 35 (.slice a len cap) d p) :
    ∃ bs, BytesAt W W.heap.size a len bs ∧ len ≤ cap ∧ cap ≤ 140737488351232 := by
  obtain ⟨fuel, hf⟩ := h
  rcases open_ints Try.underlying35 Try.underlying5 (by kernel_rfl) hf with ⟨hcs, _⟩ | ⟨x, l, c, zs, hcs, _, hl, hm, hz, hx, hcell, hwz⟩
  · simp [Value.cells] at hcs
    obtain ⟨rfl, rfl, rfl⟩ := hcs
    exact ⟨[], ⟨rfl, by simp, by omega⟩, by omega, by omega⟩
  · simp [Value.cells] at hcs
    obtain ⟨rfl, rfl, rfl⟩ := hcs
    simp only [if_true] at hz
    have hd : d = _ := (Prod.mk.inj hx).1
    have hr := sized_slice hsz htj (by rw [hdj, hd]) Try.underlying35
    have hbo : Try.prog.bytesOf 5 = 1 := by kernel_rfl
    have hre : reachBytes = 140737488351232 := rfl
    have hll : (lits IntKind.u8 (zs.take len) : List (DataW H)).length + (lits IntKind.u8 (zs.drop len) : List (DataW H)).length = zs.length := by
      simp only [lits, List.length_map, List.length_take, List.length_drop]; omega
    rw [hll, hbo, hre, Nat.mul_one] at hr
    refine ⟨zs.take len, ⟨by rw [List.length_take]; omega, ?_, ?_⟩, by omega, by omega⟩
    · intro n hn
      have := hwz n (List.mem_of_mem_take hn)
      simp only [Lit.wf, Bool.and_eq_true, decide_eq_true_eq] at this
      have h1 : IntKind.u8.min = 0 := rfl
      have h2 : IntKind.u8.max = 255 := rfl
      omega
    · intro h0
      obtain ⟨b, off, spot⟩ := x
      have hc0 := hcell 0 (by omega)
      have hspot : spot = none := by simpa [Addr.add] using World.cell?_spot hc0
      subst hspot
      refine ⟨b, off, rfl, (World.block_lt_of_cell? W _ hc0 : _), fun i hi => ?_⟩
      have hci := hcell i (by omega)
      rw [Addr.add_mid] at hci
      rw [hci, List.getElem?_take_of_lt hi, List.getD_eq_getElem?_getD]
end
end Go.Proofs.Ytkdmjkknkefemaa
