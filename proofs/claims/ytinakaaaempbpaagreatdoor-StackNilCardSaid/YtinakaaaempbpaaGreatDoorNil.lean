/- A game that nobody made. -/
import Derived.Test.YtinakaaaempbpaaGreatDoorEqPos
import Derived.Test.YtinakaaaempbpaaGreatDoorRow
import Derived.Test.YtinakaaaempbpaaGreatDoorOpenM
namespace Go.Proofs.YtinakaaaempbpaaGreatDoor
open Go.RowKit Go.Sort

/-- A game that nobody made: none, or one whose mark is not set. -/
def GN (w : World) (g : Value) : Prop := g = .pointer none ∨ ∃ b, g = .pointer (some ⟨b, 0, none⟩) ∧ w.cell? ⟨b, 0, none⟩ = some (.bool false) ∧ b < w.heap.size
theorem GN.below {w w' : World} {g : Value} (h : GN w g) (hb : Below w.heap.size w w') : GN w' g := by
  rcases h with h | ⟨b, h1, h2, h3⟩
  · exact .inl h
  · exact .inr ⟨b, h1, (hb.cell (p := ⟨b, 0, none⟩) h3).trans h2, Nat.lt_of_lt_of_le h3 hb.size⟩
theorem GN.alloc {w : World} {g : Value} (h : GN w g) (o : Obj) : GN (w.alloc o) g := h.below ((Below.refl _ _).alloc (Nat.le_refl _) _)

set_option maxRecDepth 100000 in
theorem nil_none (g : Value) (w : World) (h : GN w g) : Calls Tryz.prog 12 #[g] w fun e w' => e = .returned (.bool true) ∧ w = w' := by
  rcases h with rfl | ⟨b, rfl, h2, h3⟩
  · go_enter Tryz.func12, Tryz.ntmps12
    go_wp2
    go_ret
    exact ⟨rfl, rfl⟩
  · go_enter Tryz.func12, Tryz.ntmps12
    go_wp2
    go_ret
    exact ⟨rfl, rfl⟩

set_option maxRecDepth 100000 in
set_option maxHeartbeats 1000000 in
theorem nil_Make (g : Value) (cs : Array Value) (w : World) (h : GN w g) : Calls Tryz.prog 4 #[g, .agg cs] w fun e w' => e = .returned (.int .i64 1) ∧ Below w.heap.size w w' := by
  have hb0 : Below w.heap.size w w := Below.refl _ _
  go_enter Tryz.func4, Tryz.ntmps4
  go_wp2_with (go_at_call 12; refine (nil_none g _ (by first | exact h | exact h.alloc _)).mono ?_; rintro e w' ⟨rfl, rfl⟩)
  go_ret
  exact ⟨rfl, by first | exact hb0 | exact hb0.alloc (Nat.le_refl _) _⟩

set_option maxRecDepth 100000 in
set_option maxHeartbeats 1000000 in
theorem nil_Unmake (g : Value) (w : World) (h : GN w g) : Calls Tryz.prog 5 #[g] w fun e w' => e = .returned (.int .i64 1) ∧ Below w.heap.size w w' := by
  have hb0 : Below w.heap.size w w := Below.refl _ _
  go_enter Tryz.func5, Tryz.ntmps5
  go_wp2_with (go_at_call 12; refine (nil_none g _ (by first | exact h | exact h.alloc _)).mono ?_; rintro e w' ⟨rfl, rfl⟩)
  go_ret
  exact ⟨rfl, by first | exact hb0 | exact hb0.alloc (Nat.le_refl _) _⟩

set_option maxRecDepth 100000 in
set_option maxHeartbeats 1000000 in
theorem nil_Key (g : Value) (w : World) (h : GN w g) : Calls Tryz.prog 7 #[g] w fun e w' => e = .returned (.int .u64 0) ∧ Below w.heap.size w w' := by
  have hb0 : Below w.heap.size w w := Below.refl _ _
  go_enter Tryz.func7, Tryz.ntmps7
  go_wp2_with (go_at_call 12; refine (nil_none g _ (by first | exact h | exact h.alloc _)).mono ?_; rintro e w' ⟨rfl, rfl⟩)
  go_ret
  exact ⟨rfl, by first | exact hb0 | exact hb0.alloc (Nat.le_refl _) _⟩

set_option maxRecDepth 100000 in
set_option maxHeartbeats 1000000 in
theorem nil_Len (g : Value) (w : World) (h : GN w g) : Calls Tryz.prog 8 #[g] w fun e w' => e = .returned (.int .i64 0) ∧ Below w.heap.size w w' := by
  have hb0 : Below w.heap.size w w := Below.refl _ _
  go_enter Tryz.func8, Tryz.ntmps8
  go_wp2_with (go_at_call 12; refine (nil_none g _ (by first | exact h | exact h.alloc _)).mono ?_; rintro e w' ⟨rfl, rfl⟩)
  go_ret
  exact ⟨rfl, by first | exact hb0 | exact hb0.alloc (Nat.le_refl _) _⟩

set_option maxRecDepth 100000 in
set_option maxHeartbeats 1000000 in
theorem nil_Moves (g : Value) (w : World) (h : GN w g) : Calls Tryz.prog 9 #[g] w fun e w' => e = .returned (.slice none 0 0) ∧ Below w.heap.size w w' := by
  have hb0 : Below w.heap.size w w := Below.refl _ _
  go_enter Tryz.func9, Tryz.ntmps9
  go_wp2_with (go_at_call 12; refine (nil_none g _ (by first | exact h | exact h.alloc _)).mono ?_; rintro e w' ⟨rfl, rfl⟩)
  go_ret
  exact ⟨rfl, by first | exact hb0 | exact hb0.alloc (Nat.le_refl _) _⟩

set_option maxRecDepth 100000 in
set_option maxHeartbeats 1000000 in
theorem nil_Positions (g : Value) (w : World) (h : GN w g) : Calls Tryz.prog 10 #[g] w fun e w' => e = .returned (.slice none 0 0) ∧ Below w.heap.size w w' := by
  have hb0 : Below w.heap.size w w := Below.refl _ _
  go_enter Tryz.func10, Tryz.ntmps10
  go_wp2_with (go_at_call 12; refine (nil_none g _ (by first | exact h | exact h.alloc _)).mono ?_; rintro e w' ⟨rfl, rfl⟩)
  go_ret
  exact ⟨rfl, by first | exact hb0 | exact hb0.alloc (Nat.le_refl _) _⟩

set_option maxRecDepth 100000 in
set_option maxHeartbeats 1000000 in
theorem nil_Keys (g : Value) (w : World) (h : GN w g) : Calls Tryz.prog 11 #[g] w fun e w' => e = .returned (.slice none 0 0) ∧ Below w.heap.size w w' := by
  have hb0 : Below w.heap.size w w := Below.refl _ _
  go_enter Tryz.func11, Tryz.ntmps11
  go_wp2_with (go_at_call 12; refine (nil_none g _ (by first | exact h | exact h.alloc _)).mono ?_; rintro e w' ⟨rfl, rfl⟩)
  go_ret
  exact ⟨rfl, by first | exact hb0 | exact hb0.alloc (Nat.le_refl _) _⟩

theorem zeroPos : Tryz.zeroCells34 = posC (fun _ => 0) := by kernel_rfl
set_option maxRecDepth 100000 in
set_option maxHeartbeats 1000000 in
theorem nil_Position (g : Value) (w : World) (h : GN w g) : Calls Tryz.prog 6 #[g] w fun e w' => e = .returned (.agg (posC fun _ => 0)) ∧ Below w.heap.size w w' := by
  go_enter Tryz.func6, Tryz.ntmps6
  go_wp2_with (first
    | (go_at_call 12; refine (nil_none g _ (by first | exact h | exact h.alloc _)).mono ?_; rintro e w' ⟨rfl, rfl⟩)
    | ((with_reducible refine wp_store_box rfl _ _ rfl ?_); refine ⟨_, fun _ => 0, rfl, congrArg Value.agg zeroPos, ⟨_, heap_alloc_new _ _, by kernel_rfl⟩, ?_⟩; intro W hP hq)
    | fail)
  refine bodyPost_ret (v := .agg (posC fun _ => 0)) ?_ rfl ⟨rfl, hP.below ((Below.refl _ _).alloc (Nat.le_refl _) _) (Nat.le_refl _)⟩
  exact results_cell_row Tryz.results6 _ _ w.heap.size 34 _ (0, 0) _ rfl hq.heap Tryz.underlying34 rfl (posC_info _)

/-- A pointer to a game that nobody made stands in a row. -/
theorem zeroOk : PosOk (fun _ => 0) := fun i hi => (show ∀ i : Fin 88, (Lit.int (pk i.val) 0).wf = true by decide +kernel) ⟨i, hi⟩
set_option maxRecDepth 100000 in
set_option maxHeartbeats 4000000 in
theorem stackNil_walk (f t p d : Int) (ca : Bool) (w : World) :
    Calls Tryz.prog 3 #[.agg #[.int .i8 f, .int .i8 t, .int .u8 p, .int .u8 d, .bool ca]] w fun e w' => e = .returned (.bool true) ∧ Below w.heap.size w w' := by
  obtain ⟨A, hA⟩ : ∃ A : Array Value, #[.int .i8 f, .int .i8 t, .int .u8 p, .int .u8 d, .bool ca] = A := ⟨_, rfl⟩
  have hs5 : (Tryz.prog.info? 24).map (·.size) = some A.size := by rw [← hA]; kernel_rfl
  rw [hA]
  go_enter Tryz.func3, Tryz.ntmps3
  go_wp2_with fail
  obtain ⟨W1, hW1⟩ : ∃ W1, (((w.alloc (Obj.cells A 24)).alloc (Obj.cells Tryz.zeroCells37 37)).alloc (Obj.cells #[Value.pointer none, Value.pointer (some { block := w.heap.size + 1, off := 0 })] 25)) = W1 := ⟨_, rfl⟩
  have hF : RowAt W1 w.heap.size 24 A ∧ (W1.cell? ⟨w.heap.size + 1, 0, none⟩ = some (.bool false) ∧ w.heap.size + 1 < W1.heap.size) ∧ (W1.cell? ⟨w.heap.size + 1 + 1, 0, none⟩ = some (.pointer none) ∧ W1.cell? ⟨w.heap.size + 1 + 1, 1, none⟩ = some (.pointer (some ⟨w.heap.size + 1, 0, none⟩)) ∧ w.heap.size + 1 + 1 < W1.heap.size) ∧ Below w.heap.size w W1 := by
    rw [← hW1]
    have z1 : (w.alloc (Obj.cells A 24)).heap.size = w.heap.size + 1 := by show (w.heap.push _).size = _; simp
    have z2 : ((w.alloc (Obj.cells A 24)).alloc (Obj.cells Tryz.zeroCells37 37)).heap.size = w.heap.size + 1 + 1 := by show ((w.heap.push _).push _).size = _; simp
    have r1 := (RowAt.new (w.alloc (Obj.cells A 24)) Tryz.zeroCells37 37).alloc (Obj.cells #[Value.pointer none, Value.pointer (some { block := w.heap.size + 1, off := 0 })] 25)
    have r2 := RowAt.new ((w.alloc (Obj.cells A 24)).alloc (Obj.cells Tryz.zeroCells37 37)) #[Value.pointer none, Value.pointer (some { block := w.heap.size + 1, off := 0 })] 25
    rw [z1] at r1
    rw [z2] at r2
    refine ⟨((RowAt.new w A _).alloc _).alloc _, ⟨(r1.cell 0).trans (by kernel_rfl), r1.lt⟩, ⟨r2.cell 0, r2.cell 1, r2.lt⟩, (((Below.refl _ _).alloc (Nat.le_refl _) _).alloc (by rw [z1]; omega) _).alloc (by rw [z2]; omega) _⟩
  rw [hW1]
  clear hW1
  obtain ⟨hm0, ⟨g0, g1⟩, ⟨c0, c1, c2⟩, hb0⟩ := hF
  have HG1 := Lib.hid (fun W (h : Below W1.heap.size W1 W) => GN.below (w := W1) (.inl rfl : GN W1 (.pointer none)) h)
  have HG2 := Lib.hid (fun W (h : Below W1.heap.size W1 W) => GN.below (w := W1) (.inr ⟨_, rfl, g0, g1⟩ : GN W1 (.pointer (some ⟨w.heap.size + 1, 0, none⟩))) h)
  have HC := Lib.hid (fun W (h : Below W1.heap.size W1 W) => (show _ ∧ _ ∧ _ ∧ _ from ⟨(h.cell (p := ⟨w.heap.size + 1 + 1, 0, none⟩) c2).trans c0, (h.cell (p := ⟨w.heap.size + 1 + 1, 1, none⟩) c2).trans c1, hm0.below h, Nat.lt_of_lt_of_le c2 h.size⟩))
  have HB := Lib.hid hb0
  clear hm0 g0 g1 c0 c1 c2 hb0
  go_loopw [5] (fun vi wr => ∃ n : Nat, n ≤ 2 ∧ vi = .int .i64 (n : Int) ∧ Below W1.heap.size W1 wr) (fun vi _ => 2 - (intOf vi).toNat)
  case atStart => exact ⟨0, by omega, rfl, Below.refl _ _⟩
  case round =>
    obtain ⟨n, hn, rfl, hbr⟩ := hrel
    obtain ⟨c0, c1, hm, hls⟩ := HC.out _ hbr
    rcases (show n = 0 ∨ n = 1 ∨ n = 2 by omega) with rfl | rfl | rfl
    · obtain ⟨g, hg⟩ : ∃ g : Value, g = .pointer none := ⟨_, rfl⟩
      rw [← hg] at c0 HG1
      have HG := HG1
      clear hg c1
      go_wp2_with (first
          | ((with_reducible refine wp_load_row' rfl 24 _ rfl Tryz.underlying24 rfl ?_); refine ⟨_, _, _, rfl, hm, hs5, ?_⟩)
          | (go_at_call 4; refine (nil_Make g A _ (HG.out _ hbr)).mono ?_; rintro e u ⟨rfl, hb⟩; replace hbr := hbr.trans (hb.mono hbr.size); replace hm := hm.below hb; clear hb)
          | (go_at_call 5; refine (nil_Unmake g _ (HG.out _ hbr)).mono ?_; rintro e u ⟨rfl, hb⟩; replace hbr := hbr.trans (hb.mono hbr.size); replace hm := hm.below hb; clear hb)
          | (go_at_call 6; refine (nil_Position g _ (HG.out _ hbr)).mono ?_; rintro e u ⟨rfl, hb⟩; replace hbr := hbr.trans (hb.mono hbr.size); replace hm := hm.below hb; clear hb)
          | (go_at_call 7; refine (nil_Key g _ (HG.out _ hbr)).mono ?_; rintro e u ⟨rfl, hb⟩; replace hbr := hbr.trans (hb.mono hbr.size); replace hm := hm.below hb; clear hb)
          | (go_at_call 8; refine (nil_Len g _ (HG.out _ hbr)).mono ?_; rintro e u ⟨rfl, hb⟩; replace hbr := hbr.trans (hb.mono hbr.size); replace hm := hm.below hb; clear hb)
          | (go_at_call 9; refine (nil_Moves g _ (HG.out _ hbr)).mono ?_; rintro e u ⟨rfl, hb⟩; replace hbr := hbr.trans (hb.mono hbr.size); replace hm := hm.below hb; clear hb)
          | (go_at_call 10; refine (nil_Positions g _ (HG.out _ hbr)).mono ?_; rintro e u ⟨rfl, hb⟩; replace hbr := hbr.trans (hb.mono hbr.size); replace hm := hm.below hb; clear hb)
          | (go_at_call 11; refine (nil_Keys g _ (HG.out _ hbr)).mono ?_; rintro e u ⟨rfl, hb⟩; replace hbr := hbr.trans (hb.mono hbr.size); replace hm := hm.below hb; clear hb)
          | ((with_reducible refine wpl_neq_pos rfl _ _ _ rfl ?_); refine ⟨_, _, zeroOk, zeroOk, rfl, congrArg Value.agg zeroPos, ?_⟩; rw [samePos_self])
          | fail)
      exact ⟨⟨1, by omega, by rfl, hbr⟩, by simp [intOf]⟩
    · obtain ⟨g, hg⟩ : ∃ g : Value, g = .pointer (some ⟨w.heap.size + 1, 0, none⟩) := ⟨_, rfl⟩
      rw [← hg] at c1 HG2
      have HG := HG2
      clear hg c0
      go_wp2_with (first
          | ((with_reducible refine wp_load_row' rfl 24 _ rfl Tryz.underlying24 rfl ?_); refine ⟨_, _, _, rfl, hm, hs5, ?_⟩)
          | (go_at_call 4; refine (nil_Make g A _ (HG.out _ hbr)).mono ?_; rintro e u ⟨rfl, hb⟩; replace hbr := hbr.trans (hb.mono hbr.size); replace hm := hm.below hb; clear hb)
          | (go_at_call 5; refine (nil_Unmake g _ (HG.out _ hbr)).mono ?_; rintro e u ⟨rfl, hb⟩; replace hbr := hbr.trans (hb.mono hbr.size); replace hm := hm.below hb; clear hb)
          | (go_at_call 6; refine (nil_Position g _ (HG.out _ hbr)).mono ?_; rintro e u ⟨rfl, hb⟩; replace hbr := hbr.trans (hb.mono hbr.size); replace hm := hm.below hb; clear hb)
          | (go_at_call 7; refine (nil_Key g _ (HG.out _ hbr)).mono ?_; rintro e u ⟨rfl, hb⟩; replace hbr := hbr.trans (hb.mono hbr.size); replace hm := hm.below hb; clear hb)
          | (go_at_call 8; refine (nil_Len g _ (HG.out _ hbr)).mono ?_; rintro e u ⟨rfl, hb⟩; replace hbr := hbr.trans (hb.mono hbr.size); replace hm := hm.below hb; clear hb)
          | (go_at_call 9; refine (nil_Moves g _ (HG.out _ hbr)).mono ?_; rintro e u ⟨rfl, hb⟩; replace hbr := hbr.trans (hb.mono hbr.size); replace hm := hm.below hb; clear hb)
          | (go_at_call 10; refine (nil_Positions g _ (HG.out _ hbr)).mono ?_; rintro e u ⟨rfl, hb⟩; replace hbr := hbr.trans (hb.mono hbr.size); replace hm := hm.below hb; clear hb)
          | (go_at_call 11; refine (nil_Keys g _ (HG.out _ hbr)).mono ?_; rintro e u ⟨rfl, hb⟩; replace hbr := hbr.trans (hb.mono hbr.size); replace hm := hm.below hb; clear hb)
          | ((with_reducible refine wpl_neq_pos rfl _ _ _ rfl ?_); refine ⟨_, _, zeroOk, zeroOk, rfl, congrArg Value.agg zeroPos, ?_⟩; rw [samePos_self])
          | fail)
      exact ⟨⟨2, by omega, by rfl, hbr⟩, by simp [intOf]⟩
    · go_wp2_with fail
      go_ret
      exact ⟨rfl, HB.out.trans (hbr.mono HB.out.size)⟩

end Go.Proofs.YtinakaaaempbpaaGreatDoor
