/-
  disk: DiskFates.
-/
import Derived.Test.YtpllifppjlakpaaDkO
import Derived.Test.YtpllifppjlakpaaDkK
namespace Go.Proofs.Ytpllifppjlakpaa
section
variable {P : Program} {ops : Array Oper} {Q : Exit → Act → World → Prop} {md : Region.Mode}
/-- A stronger condition serves. -/
theorem wpAnyH_mono {S S' : World → Prop} (h : ∀ w, S' w → S w) : ∀ (fuel : Nat) (listed : Array Bool) (a : Act) (w : World), wpAnyH P md ops Q S' fuel listed a w → wpAnyH P md ops Q S fuel listed a w
  | 0, _, _, _, hh => hh
  | fuel + 1, _, _, _, hh => ⟨hh.1, fun i hi => wpOp_mono (fun a' w' h' => ⟨h _ h'.1, wpAnyH_mono h fuel _ a' w' h'.2⟩) (hh.2 i hi)⟩
end
end Go.Proofs.Ytpllifppjlakpaa
namespace Go.Proofs.Ytpllifppjlakpaa.Dk
open Go.RowKit Go.Shelf Go.Proofs.Ytpllifppjlakpaa
attribute [local go_sem] Oper.semAt_some
set_option linter.unusedVariables false
set_option linter.unusedSimpArgs false
theorem exec_convert {P : Program} {o : Oper} {a : Act} {w w' : World} {v : Value} {t t' : TypeId} {x : Operand} {p : Value} (ho : o.op = .convert t t' x) (hx : a.eval x = p) (h : (convert t t' p).run P w = .ok v w') : (execOp a.eval o).run P w = .ok (.value v) w' := by
  unfold execOp
  simp only [ho, hx, Sem.run_bind, h, Result.andThen_ok, Sem.run_pure]
theorem DiskAt.drew {F : Nat → Prop} {W : World} {d : Nat} {s : Dk} (h : DiskAt F W d s) : DiskAt F W.drew d s := h.below (Below.refl _ _).drew
def Apart (F G : Nat → Prop) : Prop := ∀ b, F b → ¬ G b
theorem Apart.symm {F G : Nat → Prop} (h : Apart F G) : Apart G F := fun b hg hf => h b hf hg
theorem Apart.grow {F G F' : Nat → Prop} {N : Nat} (h : Apart F G) (hg : Grows F F' N) (hG : ∀ b, G b → b < N) : Apart F' G := fun b hf hb => by
  rcases hg b hf with h1 | h1
  · exact h b h1 hb
  · have := hG b hb; omega
theorem grow_base {F F' : Nat → Prop} {N B : Nat} (h : Grows F F' N) (hF : ∀ b, F b → B ≤ b) (hB : B ≤ N) : ∀ b, F' b → B ≤ b := fun b hb => by
  rcases h b hb with h1 | h1
  · exact hF b h1
  · omega
theorem Keeps.block' {F : Nat → Prop} {w w' : World} (h : Keeps F w w') {g : Nat} {o : Obj} (hg : w.heap[g]? = some o) (hn : ¬ F g) : w'.heap[g]? = some o := (h.block g (blk_lt hg) hn).trans hg
/-- Three disks alike, apart. -/
structure Three (W wr : World) (B dx dy dz : Nat) (s : Dk) : Prop where
  ex : ∃ X Y Z, DiskAt X wr dx s ∧ DiskAt Y wr dy s ∧ DiskAt Z wr dz s ∧ Apart X Y ∧ Apart X Z ∧ Apart Y Z ∧ (∀ b, X b → B ≤ b) ∧ (∀ b, Y b → B ≤ b) ∧ (∀ b, Z b → B ≤ b)
  below : Below B W wr
theorem three_write {W wr W1 : World} {B dx dy dz : Nat} {sx sy sz s' : Dk} {X Y Z X' : Nat → Prop} (hB : Below B W wr) (hBs : B ≤ wr.heap.size)
    (x : DiskAt X wr dx sx) (y : DiskAt Y wr dy sy) (z : DiskAt Z wr dz sz) (xy : Apart X Y) (xz : Apart X Z) (yz : Apart Y Z) (bx : ∀ b, X b → B ≤ b) (by_ : ∀ b, Y b → B ≤ b) (bz : ∀ b, Z b → B ≤ b)
    (k1 : Keeps X wr W1) (g1 : Grows X X' wr.heap.size) (x1 : DiskAt X' W1 dx s') : DiskAt Y W1 dy sy ∧ DiskAt Z W1 dz sz ∧ Apart X' Y ∧ Apart X' Z ∧ (∀ b, X' b → B ≤ b) ∧ Below B W W1 :=
  ⟨y.apart k1 (fun b h h' => xy b h' h), z.apart k1 (fun b h h' => xz b h' h), xy.grow g1 y.2.1, xz.grow g1 z.2.1, grow_base g1 bx hBs, hB.trans (k1.below bx hBs)⟩
theorem ActsAt.below {W W' : World} {A : Option Addr} {n : Nat} {l : List ActV} (h : ActsAt W A n l) (hb : Below W.heap.size W W') : ActsAt W' A n l :=
  ⟨h.len, h.reach, fun h0 => by
    obtain ⟨b, off, e, hbl, hr⟩ := h.cells h0
    exact ⟨b, off, e, Nat.lt_of_lt_of_le hbl hb.size, fun i hi => range_below (hr i hi) hb hbl⟩, fun a ha => (h.ok a ha).below hb⟩
set_option maxHeartbeats 4000000 in
theorem fates_law (W : World) (A : Option Addr) (m c : Nat) (bs : List Int) (hb : BytesAt W W.heap.size A m bs) (hmc : m ≤ c) (A' : Option Addr) (n c' : Nat) (l : List ActV) (hl : ActsAt W A' n l) (hnc : n ≤ c') :
    Calls Try.prog 3 #[.slice A m c, .slice A' n c'] W fun e W' => e = .returned (.bool true) ∧ Below W.heap.size W W' := by
  have hre := hl.reach
  have hlen := hl.len
  go_enter Try.func3, Try.ntmps3
  go_wp2_with fail
  refine (awake_any _).mono ?_
  rintro e W1 ⟨rfl, hB1⟩
  by_cases hm : 3000 < m
  · go_wp2_with fail
    go_ret
    exact ⟨rfl, hB1⟩
  · have hfew := few_any (hl.below hB1) hnc
    go_wp2_with fail
    refine hfew.mono ?_
    rintro e W2 ⟨hB2, few, rfl⟩
    have hB2 := hB1.trans (hB2.mono hB1.size)
    cases few
    · go_wp2_with fail
      go_ret
      exact ⟨rfl, hB2⟩
    · have hb2 : BytesAt W2 W2.heap.size A m bs := (hb.below hB2).more hB2.size
      clear hfew hB1
      go_wp2_with fail
      refine (of_any hb2 hmc (by omega)).mono ?_
      rintro e W3 ⟨hB3, dx, X, rfl, hX, x3⟩
      have hB3' := hB2.trans (hB3.mono hB2.size)
      go_wp2_with fail
      refine (of_any (bs := bs) ((hb2.below hB3).more hB3.size) hmc (by omega)).mono ?_
      rintro e W4 ⟨hB4, dy, Y, rfl, hY, y4⟩
      have hB4' := hB3'.trans (hB4.mono hB3'.size)
      go_wp2_with fail
      refine (of_any (bs := bs) ((hb2.below (hB3.trans (hB4.mono hB3.size))).more (Nat.le_trans hB3.size hB4.size)) hmc (by omega)).mono ?_
      rintro e W5 ⟨hB5, dz, Z, rfl, hZ, z5⟩
      have hB5' := hB4'.trans (hB5.mono hB4'.size)
      have x5 := (x3.below hB4).below hB5
      have y5 := y4.below hB5
      have xy : Apart X Y := fun b h h' => by have := x3.2.1 b h; have := hY b h'; omega
      have xz : Apart X Z := fun b h h' => by have := x3.2.1 b h; have := hZ b h'; have := hB4.size; omega
      have yz : Apart Y Z := fun b h h' => by have := y4.2.1 b h; have := hZ b h'; omega
      have bx : ∀ b, X b → W.heap.size ≤ b := fun b h => Nat.le_trans hB2.size (hX b h)
      have by_ : ∀ b, Y b → W.heap.size ≤ b := fun b h => Nat.le_trans hB3'.size (hY b h)
      have bz : ∀ b, Z b → W.heap.size ≤ b := fun b h => Nat.le_trans hB4'.size (hZ b h)
      clear hb2 hB2 hB3 hB3' hB4 hB4' hB5 hX hY hZ x3 y4
      have hce := hl.cells
      have hok := hl.ok
      go_wp2_with fail
      go_loopw [38] (fun v wr => ∃ i : Nat, i ≤ n ∧ v = .int .i64 i ∧ ∃ s X Y Z, Free (ofDk bs) s ∧ s.Q.length ≤ i ∧ DiskAt X wr dx s ∧ DiskAt Y wr dy s ∧ DiskAt Z wr dz s ∧ Apart X Y ∧ Apart X Z ∧ Apart Y Z ∧ (∀ b, X b → W.heap.size ≤ b) ∧ (∀ b, Y b → W.heap.size ≤ b) ∧ (∀ b, Z b → W.heap.size ≤ b) ∧ Below W.heap.size W wr) (fun v _ => n - (intOf v).toNat)
      case atStart => exact ⟨0, Nat.zero_le _, rfl, _, X, Y, Z, of_free bs, Nat.le_refl _, x5, y5, z5, xy, xz, yz, bx, by_, bz, hB5'⟩
      case round =>
        clear x5 y5 z5 xy xz yz bx by_ bz hB5'
        clear X Y Z
        obtain ⟨i, hi, rfl, s, X, Y, Z, hfree, hq, x, y, z, xy, xz, yz, bx, by_, bz, hB⟩ := hrel
        by_cases hlt : i < n
        · obtain ⟨b, off, rfl, hbl, hrg⟩ := hce (by omega)
          have hr := range_below (hrg i (by omega)) hB hbl
          have ha := hok l[i] (List.getElem_mem (by omega))
          generalize l[i] = a at hr ha
          have h1 := cells_one a
          have xe := x.below ((Below.refl _ _).alloc (Nat.le_refl _) (.cells a.cells.toArray 32))
          have ye := y.below ((Below.refl _ _).alloc (Nat.le_refl _) (.cells a.cells.toArray 32))
          have ze := z.below ((Below.refl _ _).alloc (Nat.le_refl _) (.cells a.cells.toArray 32))
          have nX : ¬ X wr.heap.size := fun h => absurd (x.2.1 _ h) (by omega)
          have nY : ¬ Y wr.heap.size := fun h => absurd (y.2.1 _ h) (by omega)
          have nZ : ¬ Z wr.heap.size := fun h => absurd (z.2.1 _ h) (by omega)
          have hx := heap_alloc_last wr (.cells a.cells.toArray 32)
          have hB6 := hB.alloc hB.size (.cells a.cells.toArray 32)
          have hwx := write_free x.1 hfree a.n a.bs ha.bytes.2.1
          have hqq : s.Q.length < 1954687338211 := by omega
          have hnA : ∀ F : Nat → Prop, (∀ b, F b → W.heap.size ≤ b) → a.m = 64 → ∀ b off, a.A = some ⟨b, off, none⟩ → ¬ F b := fun F hF hm64 b off e hf => by
            obtain ⟨b', off', e', hlt', -⟩ := ha.bytes.2.2 (by omega)
            rw [e] at e'
            injection e' with e'
            injection e' with e' _ _
            have := hF b hf
            omega
          have hnx := hnA X bx
          have hny := hnA Y by_
          have hnz := hnA Z bz
          have hab := ha.bytes
          have han := ha.n
          obtain ⟨-, x1, x2, -⟩ := act_in hx
          clear hrg hce hok x y z hB hnA hl ha
          go_wp2_with (first | (refine wpList_load_mid rfl 32 (.tmp 40) rfl b (off + i * 7) rfl _ _ hr Try.underlying32 rfl (size32 rfl) ?_) | (refine wpL_store (by rfl) 32 (.tmp 9) (.tmp 41) rfl wr.heap.size a.cells.toArray rfl rfl 32 _ (heap_alloc_last wr _) (size32 rfl) rfl (all_oneCell_toArray h1) ?_; rw [setRow_last _ _ _ _ _ rfl]))
          clear hr h1
          generalize wr.alloc (.cells a.cells.toArray 32) = W6 at xe ye ze hx hB6 x1 x2 ⊢
          generalize wr.heap.size = Ba at nX nY nZ hx x1 x2 ⊢
          refine (write_all xe hqq a.n han a.A a.m a.c a.bs ((hab.below hB6).more hB6.size) hnx).mono ?_
          rintro e W7 ⟨rfl, k1, X', g1, x7⟩
          obtain ⟨y7, z7, xy7, xz7, bx7, hB7⟩ := three_write hB6 hB6.size xe ye ze xy xz yz bx by_ bz k1 g1 x7
          have hx7 := k1.block' hx nX
          obtain ⟨-, x1, x2, -⟩ := act_in hx7
          clear xe ye ze xy xz k1 g1 hx
          go_wp2_with fail
          refine (write_all y7 hqq a.n han a.A a.m a.c a.bs ((hab.below hB7).more hB7.size) hny).mono ?_
          rintro e W8 ⟨rfl, k2, Y', g2, y8⟩
          obtain ⟨z8, x8, yz8, yx8, by8, hB8⟩ := three_write hB7 hB7.size y7 z7 x7 yz xy7.symm xz7.symm by_ bz bx7 k2 g2 y8
          have hx8 := k2.block' hx7 nY
          obtain ⟨-, x1, x2, -⟩ := act_in hx8
          clear y7 z7 x7 yz xy7 k2 g2 hx7
          go_wp2_with fail
          refine (write_all z8 hqq a.n han a.A a.m a.c a.bs ((hab.below hB8).more hB8.size) hnz).mono ?_
          rintro e W9 ⟨rfl, k3, Z', g3, z9⟩
          obtain ⟨x9, y9, zx9, zy9, bz9, hB9⟩ := three_write hB8 hB8.size z8 x8 y8 xz7.symm yz8.symm yx8.symm bz bx7 by8 k3 g3 z9
          clear z8 x8 y8 k3 g3 hx8 x1 x2
          go_wp2_with fail
          exact ⟨⟨i + 1, by omega, by go_num, _, X', Y', Z', hwx.1, by have := hwx.2; omega, x9, y9, z9, yx8.symm, zx9.symm, zy9.symm, bx7, by8, bz9, hB9⟩, by simp [intOf]; omega⟩
        · obtain rfl : i = n := by omega
          clear hce hok hl
          have hxy := fates_flush x.1 hfree
          have hzo := fates_before hfree
          go_wp2_with fail
          refine (restart_any x ⟨18446744073709551615, -1, 0, false⟩ (by decide)).mono ?_
          rintro e W10 ⟨rfl, k1, x1⟩
          obtain ⟨y1, z1, -, -, -, hB10⟩ := three_write hB hB.size x y z xy xz yz bx by_ bz k1 (Grows.refl _ _) x1
          clear x y z k1
          go_wp2_with fail
          refine (flush_all y1).mono ?_
          rintro e W11 ⟨rfl, k2, y2⟩
          obtain ⟨z2, x2, -, -, -, hB11⟩ := three_write hB10 hB10.size y1 z1 x1 yz xy.symm xz.symm by_ bz bx k2 (Grows.refl _ _) y2
          clear y1 z1 x1 k2
          go_wp2_with fail
          refine (restart_any z2 ⟨0, -1, 0, false⟩ (by decide)).mono ?_
          rintro e W12 ⟨rfl, k3, z3⟩
          obtain ⟨x3, y3, -, -, -, hB12⟩ := three_write hB11 hB11.size z2 x2 y2 xz.symm yz.symm xy bz bx by_ k3 (Grows.refl _ _) z3
          clear z2 x2 y2 k3 hB hB10 hB11 xy xz yz
          generalize restDk s ⟨18446744073709551615, -1, 0, false⟩ = sx at x3 hxy
          generalize (flushTot s).2 = sy at y3 hxy
          generalize restDk s ⟨0, -1, 0, false⟩ = sz at z3 hzo
          go_wp2_with fail
          have hbs : BytesAt W12 W12.heap.size A m bs := (hb.below hB12).more hB12.size
          refine wp_region_any (by kernel_rfl) ?_
          change wpAny _ _ _ _ _ _ _ W12.drew
          have x4 := x3.drew
          have y4 := y3.drew
          have z4 := z3.drew
          have hB4 : Below W.heap.size W W12.drew := hB12.drew
          have hbs4 : BytesAt W12.drew W12.drew.heap.size A m bs := hbs
          clear x3 y3 z3 hB12 hbs
          generalize W12.drew = V0 at *
          refine wpAny_take (i := 0) (v := ?_) rfl (by kernel_rfl) (by kernel_rfl) (by kernel_rfl) (fun _ _ _ h => h) (Or.inl ⟨by rfl, ?_⟩) ?_
          rotate_left 1
          · intro w
            go_simp
            try rfl
          try simp only [Act.put, List.getElem_toArray, List.getElem_cons_zero, List.getElem_cons_succ, List.setIfInBounds_toArray, List.set_cons_succ, List.set_cons_zero]
          refine wpAny_take (i := 3) (v := ?_) rfl (by kernel_rfl) (by kernel_rfl) (by kernel_rfl) (fun _ _ _ h => h) (Or.inl ⟨by rfl, ?_⟩) ?_
          rotate_left 1
          · intro w
            go_simp
            try rfl
          try simp only [Act.put, List.getElem_toArray, List.getElem_cons_zero, List.getElem_cons_succ, List.setIfInBounds_toArray, List.set_cons_succ, List.set_cons_zero]
          refine wpAny_ready (rs := [1]) (by kernel_rfl) (by simp) ?_
          refine AllReady.cons rfl (fun K hK => ?_) AllReady.nil
          go_simp
          refine (bytes_any x4).mono ?_
          rintro e V1 ⟨hb1, A1, c1, rfl, ho1⟩
          dsimp only
          refine hK _ _ ?_
          clear hK K
          try simp only [Act.put, List.getElem_toArray, List.getElem_cons_zero, List.getElem_cons_succ, List.setIfInBounds_toArray, List.set_cons_succ, List.set_cons_zero]
          have q1 : BytesAt V1 V1.heap.size A1 sx.L.length sx.L := ho1.at_ x4.1.bytes
          refine wpAny_of_held (S := fun w => Below V1.heap.size V1 w) _ _ _ _ ?_
          have hS : Below V1.heap.size V1 V1 := Below.refl _ _
          refine wpAnyH_take (i := 2) (v := (.string (strOfNums sx.L))) rfl (by kernel_rfl) (by kernel_rfl) (by kernel_rfl) (fun _ _ _ h => h) (Or.inl ⟨by rfl, fun w hw => ?_⟩) hS ?_
          · ((exact exec_convert rfl rfl (run_str (q1.below hw))))
          try simp only [Act.put, List.getElem_toArray, List.getElem_cons_zero, List.getElem_cons_succ, List.setIfInBounds_toArray, List.set_cons_succ, List.set_cons_zero]
          refine wpAnyH_ready (rs := [4]) (by kernel_rfl) (by simp) ?_
          refine AllReadyH.cons rfl (fun K hK => ?_) AllReadyH.nil
          go_simp
          refine (bytes_any (y4.below hb1)).mono ?_
          rintro e V2 ⟨hb2, A2, c2, rfl, ho2⟩
          dsimp only
          refine hK.out _ _ hb2 (fun _ => ?_)
          clear hK K
          try simp only [Act.put, List.getElem_toArray, List.getElem_cons_zero, List.getElem_cons_succ, List.setIfInBounds_toArray, List.set_cons_succ, List.set_cons_zero]
          have q2 : BytesAt V2 V2.heap.size A2 sy.L.length sy.L := ho2.at_ y4.1.bytes
          refine wpAnyH_mono (S' := fun w => Below V2.heap.size V2 w) (fun w hw => hb2.trans (hw.mono hb2.size)) _ _ _ _ ?_
          clear hS
          have hS : Below V2.heap.size V2 V2 := Below.refl _ _
          refine wpAnyH_take (i := 5) (v := (.string (strOfNums sx.L))) rfl (by kernel_rfl) (by kernel_rfl) (by kernel_rfl) (fun _ _ _ h => h) (Or.inl ⟨by rfl, fun w hw => ?_⟩) hS ?_
          · ((rw [hxy]; exact exec_convert rfl rfl (run_str (q2.below hw))))
          try simp only [Act.put, List.getElem_toArray, List.getElem_cons_zero, List.getElem_cons_succ, List.setIfInBounds_toArray, List.set_cons_succ, List.set_cons_zero]
          refine wpAnyH_take (i := 6) (v := ?_) rfl (by kernel_rfl) (by kernel_rfl) (by kernel_rfl) (fun _ _ _ h => h) (Or.inl ⟨by rfl, fun w hw => ?_⟩) hS ?_
          rotate_left 1
          · ((go_simp; try rfl))
          try simp only [Act.put, List.getElem_toArray, List.getElem_cons_zero, List.getElem_cons_succ, List.setIfInBounds_toArray, List.set_cons_succ, List.set_cons_zero]
          refine wpAnyH_take (i := 7) (v := ?_) rfl (by kernel_rfl) (by kernel_rfl) (by kernel_rfl) (fun _ _ _ h => h) (Or.inl ⟨by rfl, fun w hw => ?_⟩) hS ?_
          rotate_left 1
          · ((go_simp; try rfl))
          try simp only [Act.put, List.getElem_toArray, List.getElem_cons_zero, List.getElem_cons_succ, List.setIfInBounds_toArray, List.set_cons_succ, List.set_cons_zero]
          refine wpAnyH_take (i := 8) (v := ?_) rfl (by kernel_rfl) (by kernel_rfl) (by kernel_rfl) (fun _ _ _ h => h) (Or.inl ⟨by rfl, fun w hw => ?_⟩) hS ?_
          rotate_left 1
          · ((go_simp; try rfl))
          try simp only [Act.put, List.getElem_toArray, List.getElem_cons_zero, List.getElem_cons_succ, List.setIfInBounds_toArray, List.set_cons_succ, List.set_cons_zero]
          refine wpAnyH_take (i := 11) (v := ?_) rfl (by kernel_rfl) (by kernel_rfl) (by kernel_rfl) (fun _ _ _ h => h) (Or.inl ⟨by rfl, fun w hw => ?_⟩) hS ?_
          rotate_left 1
          · ((go_simp; try rfl))
          try simp only [Act.put, List.getElem_toArray, List.getElem_cons_zero, List.getElem_cons_succ, List.setIfInBounds_toArray, List.set_cons_succ, List.set_cons_zero]
          have hb02 := hb1.trans (hb2.mono hb1.size)
          refine wpAnyH_ready (rs := [9]) (by kernel_rfl) (by simp) ?_
          refine AllReadyH.cons rfl (fun K hK => ?_) AllReadyH.nil
          go_simp
          refine (bytes_any (z4.below hb02)).mono ?_
          rintro e V3 ⟨hb3, A3, c3, rfl, ho3⟩
          dsimp only
          refine hK.out _ _ hb3 (fun _ => ?_)
          clear hK K
          try simp only [Act.put, List.getElem_toArray, List.getElem_cons_zero, List.getElem_cons_succ, List.setIfInBounds_toArray, List.set_cons_succ, List.set_cons_zero]
          have q3 : BytesAt V3 V3.heap.size A3 sz.L.length sz.L := ho3.at_ z4.1.bytes
          refine wpAnyH_mono (S' := fun w => Below V3.heap.size V3 w) (fun w hw => hb3.trans (hw.mono hb3.size)) _ _ _ _ ?_
          clear hS
          have hS : Below V3.heap.size V3 V3 := Below.refl _ _
          refine wpAnyH_take (i := 10) (v := (.string (strOfNums sz.L))) rfl (by kernel_rfl) (by kernel_rfl) (by kernel_rfl) (fun _ _ _ h => h) (Or.inl ⟨by rfl, fun w hw => ?_⟩) hS ?_
          · ((exact exec_convert rfl rfl (run_str (q3.below hw))))
          try simp only [Act.put, List.getElem_toArray, List.getElem_cons_zero, List.getElem_cons_succ, List.setIfInBounds_toArray, List.set_cons_succ, List.set_cons_zero]
          have hb03 := hb02.trans (hb3.mono hb02.size)
          refine wpAnyH_ready (rs := [12]) (by kernel_rfl) (by simp) ?_
          refine AllReadyH.cons rfl (fun K hK => ?_) AllReadyH.nil
          go_simp
          refine (of_any ((hbs4.below hb03).more hb03.size) hmc (by omega)).mono ?_
          rintro e V4 ⟨hb4, d4, F4, rfl, hF4, o4⟩
          dsimp only
          refine hK.out _ _ hb4 (fun hS => ?_)
          clear hK K
          try simp only [Act.put, List.getElem_toArray, List.getElem_cons_zero, List.getElem_cons_succ, List.setIfInBounds_toArray, List.set_cons_succ, List.set_cons_zero]
          have hb04 := hb03.trans (hb4.mono hb03.size)
          refine wpAnyH_ready (rs := [13]) (by kernel_rfl) (by simp) ?_
          refine AllReadyH.cons rfl (fun K hK => ?_) AllReadyH.nil
          go_simp
          refine (bytes_any o4).mono ?_
          rintro e V5 ⟨hb5, A5, c5, rfl, ho5⟩
          dsimp only
          refine hK.out _ _ (hb4.trans (hb5.mono hb4.size)) (fun _ => ?_)
          clear hK K
          try simp only [Act.put, List.getElem_toArray, List.getElem_cons_zero, List.getElem_cons_succ, List.setIfInBounds_toArray, List.set_cons_succ, List.set_cons_zero]
          have q5 : BytesAt V5 V5.heap.size A5 (ofDk bs).L.length (ofDk bs).L := ho5.at_ o4.1.bytes
          refine wpAnyH_mono (S' := fun w => Below V5.heap.size V5 w) (fun w hw => (hb4.trans (hb5.mono hb4.size)).trans (hw.mono (Nat.le_trans hb4.size hb5.size))) _ _ _ _ ?_
          clear hS
          have hS : Below V5.heap.size V5 V5 := Below.refl _ _
          refine wpAnyH_take (i := 14) (v := (.string (strOfNums sz.L))) rfl (by kernel_rfl) (by kernel_rfl) (by kernel_rfl) (fun _ _ _ h => h) (Or.inl ⟨by rfl, fun w hw => ?_⟩) hS ?_
          · ((rw [hzo]; exact exec_convert rfl rfl (run_str (q5.below hw))))
          try simp only [Act.put, List.getElem_toArray, List.getElem_cons_zero, List.getElem_cons_succ, List.setIfInBounds_toArray, List.set_cons_succ, List.set_cons_zero]
          refine wpAnyH_take (i := 15) (v := ?_) rfl (by kernel_rfl) (by kernel_rfl) (by kernel_rfl) (fun _ _ _ h => h) (Or.inl ⟨by rfl, fun w hw => ?_⟩) hS ?_
          rotate_left 1
          · ((go_simp; try rfl))
          try simp only [Act.put, List.getElem_toArray, List.getElem_cons_zero, List.getElem_cons_succ, List.setIfInBounds_toArray, List.set_cons_succ, List.set_cons_zero]
          refine wpAnyH_take (i := 16) (v := ?_) rfl (by kernel_rfl) (by kernel_rfl) (by kernel_rfl) (fun _ _ _ h => h) (Or.inl ⟨by rfl, fun w hw => ?_⟩) hS ?_
          rotate_left 1
          · ((go_simp; try rfl))
          try simp only [Act.put, List.getElem_toArray, List.getElem_cons_zero, List.getElem_cons_succ, List.setIfInBounds_toArray, List.set_cons_succ, List.set_cons_zero]
          refine wpAnyH_take (i := 17) (v := ?_) rfl (by kernel_rfl) (by kernel_rfl) (by kernel_rfl) (fun _ _ _ h => h) (Or.inl ⟨by rfl, fun w hw => ?_⟩) hS ?_
          rotate_left 1
          · ((go_simp; try rfl))
          try simp only [Act.put, List.getElem_toArray, List.getElem_cons_zero, List.getElem_cons_succ, List.setIfInBounds_toArray, List.set_cons_succ, List.set_cons_zero]
          refine wpAnyH_done (by kernel_rfl) ?_ _
          have hb05 := hb04.trans (hb5.mono hb04.size)
          go_wp2_with fail
          go_ret
          exact ⟨rfl, hB4.trans (hb05.mono hB4.size)⟩
end Go.Proofs.Ytpllifppjlakpaa.Dk
namespace Go.Proofs.Ytpllifppjlakpaa
open Go.RowKit
theorem diskFates_walk (W : World) (A : Option Addr) (m c : Nat) (bs : List Int) (hb : BytesAt W W.heap.size A m bs) (hmc : m ≤ c) (hc : c ≤ 140737488351232) (A' : Option Addr) (n c' : Nat) (l : List Dk.ActV) (hl : Dk.ActsAt W A' n l) (hnc : n ≤ c') :
    Calls Try.prog 3 #[.slice A m c, .slice A' n c'] W fun e W' => e = .returned (.bool true) ∧ Below W.heap.size W W' := Dk.fates_law W A m c bs hb hmc A' n c' l hl hnc
end Go.Proofs.Ytpllifppjlakpaa
