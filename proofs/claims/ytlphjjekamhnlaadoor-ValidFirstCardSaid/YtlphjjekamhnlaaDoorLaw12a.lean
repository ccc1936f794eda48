/- The laws of layer 12: awake. -/
import Derived.Test.YtlphjjekamhnlaaDoorVpF
import Derived.Test.YtlphjjekamhnlaaDoorStartC
import Derived.Test.YtlphjjekamhnlaaDoorTake
import Derived.Test.YtlphjjekamhnlaaDoorMoves13
namespace Go.Proofs.YtlphjjekamhnlaaDoor
open Go.RowKit Go.Sort
attribute [local go_sem] Oper.semAt_some

theorem cutK4 {F G : Nat → Nat → Nat → Nat → Prop} {R : Prop} (h : ∀ a b c d, F a b c d → G a b c d) (k : (∀ a b c d, F a b c d → G a b c d) → R) : R := k h
def Dist (n a b c d : Nat) : Prop := (a ≠ b ∧ a ≠ c ∧ a ≠ d ∧ b ≠ c ∧ b ≠ d ∧ c ≠ d) ∧ ((n ≤ a ∧ a < n + 4) ∧ (n ≤ b ∧ b < n + 4) ∧ (n ≤ c ∧ c < n + 4) ∧ (n ≤ d ∧ d < n + 4))
namespace Y
def awA : Nat → Int := upd (V.start 0) 61 0
def awB : Nat → Int := upd (V.start 0) 57 1
def awC : Nat → Int := upd (V.start 0) 8 0
def awD : Nat → Int := upd (V.start 0) 83 20
def awN : Nat → Int := upd (V.none' 0) 78 1
def awE : Nat → Int := upd (upd (upd awN 5 6) 61 12) 57 14
def awF : Nat → Int := upd awE 78 0
end Y
theorem posOk_of12 (c : Nat → Int) (h : ∀ i : Fin 88, (Lit.int (pk i.val) (c i.val)).wf = true) : PosOk c := fun i hi => h ⟨i, hi⟩
theorem awP_ok12 : PosOk (V.start 0) := posOk_of12 _ (by decide +kernel)
theorem awA_ok : PosOk Y.awA := posOk_of12 _ (by decide +kernel)
theorem awB_ok : PosOk Y.awB := posOk_of12 _ (by decide +kernel)
theorem awC_ok : PosOk Y.awC := posOk_of12 _ (by decide +kernel)
theorem awD_ok : PosOk Y.awD := posOk_of12 _ (by decide +kernel)
theorem awE_ok : PosOk Y.awE := posOk_of12 _ (by decide +kernel)
theorem awF_ok : PosOk Y.awF := posOk_of12 _ (by decide +kernel)
theorem awP_f : Y.first (V.start 0) = 0 := by decide +kernel
theorem awA_f : Y.first Y.awA = 120 := by decide +kernel
theorem awB_f : Y.first Y.awB = 121 := by decide +kernel
theorem awC_f : Y.first Y.awC = 123 := by decide +kernel
theorem awD_f : Y.first Y.awD = 124 := by decide +kernel
theorem awE_f : Y.first Y.awE = 126 := by decide +kernel
theorem awF_f : Y.first Y.awF = 0 := by decide +kernel
theorem Tryd.awN_cells : Tryd.prog.built 31 [(4, .int .u8 1), (6, .int .i8 (-1)), (9, .int .i64 1), (5, .agg #[.int .i8 (-1), .int .i8 (-1), .int .i8 (-1), .int .i8 (-1)])] = some (posC Y.awN) := by kernel_rfl
theorem zero31_size12 : Tryd.zeroCells31.size = 88 := by kernel_rfl
theorem rows4 (W : World) (T : TypeId) (z : Array Value) (b : Nat) (h0 : W.heap.size ≤ b) (h1 : b < W.heap.size + 4) : RowAt ((((W.alloc (.cells z T)).alloc (.cells z T)).alloc (.cells z T)).alloc (.cells z T)) b T z := by
  rcases (show b = W.heap.size ∨ b = W.heap.size + 1 ∨ b = W.heap.size + 2 ∨ b = W.heap.size + 3 by omega) with rfl | rfl | rfl | rfl
  · exact (((RowAt.new W z T).alloc _).alloc _).alloc _
  · have := RowAt.new (W.alloc (.cells z T)) z T
    rw [World.size_alloc] at this
    exact (this.alloc _).alloc _
  · have := RowAt.new ((W.alloc (.cells z T)).alloc (.cells z T)) z T
    rw [World.size_alloc, World.size_alloc] at this
    exact this.alloc _
  · have := RowAt.new (((W.alloc (.cells z T)).alloc (.cells z T)).alloc (.cells z T)) z T
    rw [World.size_alloc, World.size_alloc, World.size_alloc] at this
    exact this
/-- awake's five positions. -/
structure Aw (w : World) (g b4 b5 b6 b7 : Nat) (p q4 q5 q6 q7 : Nat → Int) (W : World) : Prop where
  p : PosAt W g p
  p4 : PosAt W b4 q4
  p5 : PosAt W b5 q5
  p6 : PosAt W b6 q6
  p7 : PosAt W b7 q7
  below : Below w.heap.size w W
  hg : w.heap.size ≤ g
  ne : (g < b4 ∧ g < b5 ∧ g < b6 ∧ g < b7) ∧ (b4 ≠ b5 ∧ b4 ≠ b6 ∧ b4 ≠ b7 ∧ b5 ≠ b6 ∧ b5 ≠ b7 ∧ b6 ≠ b7)
section
variable {w W W' : World} {g b4 b5 b6 b7 e : Nat} {p q4 q5 q6 q7 q : Nat → Int}
theorem Aw.next (h : Aw w g b4 b5 b6 b7 p q4 q5 q6 q7 W) (hb : Below W.heap.size W W') : Aw w g b4 b5 b6 b7 p q4 q5 q6 q7 W' :=
  ⟨h.p.below hb, h.p4.below hb, h.p5.below hb, h.p6.below hb, h.p7.below hb, below_next h.below hb, h.hg, h.ne⟩
theorem Aw.put4 (h : Aw w g b4 b5 b6 b7 p q4 q5 q6 q7 W) (hP : Put b4 W W') (hq : PosAt W' b4 q) : Aw w g b4 b5 b6 b7 p q q5 q6 q7 W' := by
  have := h.ne
  have := h.hg
  exact ⟨hP.pos h.p (by omega), hq, hP.pos h.p5 (by omega), hP.pos h.p6 (by omega), hP.pos h.p7 (by omega), hP.below h.below (by omega), h.hg, h.ne⟩
theorem Aw.put5 (h : Aw w g b4 b5 b6 b7 p q4 q5 q6 q7 W) (hP : Put b5 W W') (hq : PosAt W' b5 q) : Aw w g b4 b5 b6 b7 p q4 q q6 q7 W' := by
  have := h.ne
  have := h.hg
  exact ⟨hP.pos h.p (by omega), hP.pos h.p4 (by omega), hq, hP.pos h.p6 (by omega), hP.pos h.p7 (by omega), hP.below h.below (by omega), h.hg, h.ne⟩
theorem Aw.put6 (h : Aw w g b4 b5 b6 b7 p q4 q5 q6 q7 W) (hP : Put b6 W W') (hq : PosAt W' b6 q) : Aw w g b4 b5 b6 b7 p q4 q5 q q7 W' := by
  have := h.ne
  have := h.hg
  exact ⟨hP.pos h.p (by omega), hP.pos h.p4 (by omega), hP.pos h.p5 (by omega), hq, hP.pos h.p7 (by omega), hP.below h.below (by omega), h.hg, h.ne⟩
theorem Aw.put7 (h : Aw w g b4 b5 b6 b7 p q4 q5 q6 q7 W) (hP : Put b7 W W') (hq : PosAt W' b7 q) : Aw w g b4 b5 b6 b7 p q4 q5 q6 q W' := by
  have := h.ne
  have := h.hg
  exact ⟨hP.pos h.p (by omega), hP.pos h.p4 (by omega), hP.pos h.p5 (by omega), hP.pos h.p6 (by omega), hq, hP.below h.below (by omega), h.hg, h.ne⟩
/-- .. and a block above all five. -/
def Aw.above (g b4 b5 b6 b7 e : Nat) : Prop := g < e ∧ b4 < e ∧ b5 < e ∧ b6 < e ∧ b7 < e
theorem Aw.is_above (h : Aw w g b4 b5 b6 b7 p q4 q5 q6 q7 W) : Aw.above g b4 b5 b6 b7 W.heap.size := ⟨h.p.lt, h.p4.lt, h.p5.lt, h.p6.lt, h.p7.lt⟩
theorem Aw.off (h : Aw w g b4 b5 b6 b7 p q4 q5 q6 q7 W) (hP : Put e W W') (he : Aw.above g b4 b5 b6 b7 e) : Aw w g b4 b5 b6 b7 p q4 q5 q6 q7 W' := by
  obtain ⟨h0, h4, h5, h6, h7⟩ := he
  have := h.hg
  exact ⟨hP.pos h.p (by omega), hP.pos h.p4 (by omega), hP.pos h.p5 (by omega), hP.pos h.p6 (by omega), hP.pos h.p7 (by omega), hP.below h.below (by omega), h.hg, h.ne⟩
theorem Aw.alloc (h : Aw w g b4 b5 b6 b7 p q4 q5 q6 q7 W) (o : Obj) : Aw w g b4 b5 b6 b7 p q4 q5 q6 q7 (W.alloc o) :=
  h.next ((Below.refl _ _).alloc (Nat.le_refl _) o)
end

set_option maxRecDepth 100000 in
set_option maxHeartbeats 40000000 in
theorem awake12_any (w : World) (hT : Tb w) : Calls Tryd.prog 20 #[] w fun e w' => e = .returned (.bool true) ∧ Below w.heap.size w w' := by
  have HT := Lib.hid (fun W (hb : Below w.heap.size w W) => tb_below hT hb)
  have CP : Hid (∀ W, Tb W → Calls Tryd.prog 19 #[.agg (posC (V.start 0))] W fun e w' => e = .returned (.int .i64 0) ∧ Below W.heap.size W w') := Lib.hid (fun W h => vfirst_val (V.start 0) 0 W awP_ok12 h awP_f)
  have CA : Hid (∀ W, Tb W → Calls Tryd.prog 19 #[.agg (posC Y.awA)] W fun e w' => e = .returned (.int .i64 120) ∧ Below W.heap.size W w') := Lib.hid (fun W h => vfirst_val Y.awA 120 W awA_ok h awA_f)
  have CB : Hid (∀ W, Tb W → Calls Tryd.prog 19 #[.agg (posC Y.awB)] W fun e w' => e = .returned (.int .i64 121) ∧ Below W.heap.size W w') := Lib.hid (fun W h => vfirst_val Y.awB 121 W awB_ok h awB_f)
  have CC : Hid (∀ W, Tb W → Calls Tryd.prog 19 #[.agg (posC Y.awC)] W fun e w' => e = .returned (.int .i64 123) ∧ Below W.heap.size W w') := Lib.hid (fun W h => vfirst_val Y.awC 123 W awC_ok h awC_f)
  have CD : Hid (∀ W, Tb W → Calls Tryd.prog 19 #[.agg (posC Y.awD)] W fun e w' => e = .returned (.int .i64 124) ∧ Below W.heap.size W w') := Lib.hid (fun W h => vfirst_val Y.awD 124 W awD_ok h awD_f)
  have CE : Hid (∀ W, Tb W → Calls Tryd.prog 19 #[.agg (posC Y.awE)] W fun e w' => e = .returned (.int .i64 126) ∧ Below W.heap.size W w') := Lib.hid (fun W h => vfirst_val Y.awE 126 W awE_ok h awE_f)
  have CF : Hid (∀ W, Tb W → Calls Tryd.prog 19 #[.agg (posC Y.awF)] W fun e w' => e = .returned (.int .i64 0) ∧ Below W.heap.size W w') := Lib.hid (fun W h => vfirst_val Y.awF 0 W awF_ok h awF_f)
  have hu := Tryd.underlying31
  have hinfo : (Tryd.prog.info? 31).map (·.size) = some (posL (V.start 0)).length := by rw [Tryd.infoPos]; simp [posL]
  clear hT
  go_enter Tryd.func20, Tryd.ntmps20
  go_upto_region 2 with (first
    | (go_at_call 23; refine (start_any 0 _ (by decide)).mono ?_; rintro e w1 ⟨rfl, hb1⟩)
    | ((with_reducible refine wp_store_box rfl _ _ rfl ?_); refine ⟨w1.heap.size, (V.start 0), rfl, rfl, ⟨_, heap_alloc_new _ _, (by kernel_rfl)⟩, ?_⟩; intro W0 hP hq0; have hb0 := hP.below (hb1.alloc hb1.size _) hb1.size; clear hP))
  have hsg := hb1.size
  obtain ⟨g, hg⟩ : ∃ g, w1.heap.size = g := ⟨_, rfl⟩
  rw [hg] at hq0 hsg ⊢
  clear hb1 hg
  have hSd : PosAt W0.drew g (V.start 0) ∧ Below w.heap.size w W0.drew := ⟨⟨hq0.heap⟩, M.below_drew hb0 1⟩
  refine wp_region_held (S := fun w' => PosAt w' g (V.start 0) ∧ Below w.heap.size w w') (by kernel_rfl) ?_
  change wpAnyH _ _ _ _ _ _ _ _ W0.drew
  clear hq0 hb0
  generalize W0.drew = W1 at hSd ⊢
  refine takeD 0 (some 13) (.agg (posC (V.start 0))) (by kernel_rfl) (by kernel_rfl) (by kernel_rfl) (by kernel_rfl) (by kernel_rfl) (fun _ _ _ h => h) (yieldsIf_load_mid (by kernel_rfl) 31 (.tmp 1) (by kernel_rfl) g 0 (by kernel_rfl) (posL (V.start 0)) _ (fun _ h => pos_range h.1.heap) hu rfl hinfo) hSd ?_
  simp only [Act.put, List.setIfInBounds_toArray, List.set_cons_succ, List.set_cons_zero]
  refine takeD 1 (some 14) (.agg (posC (V.start 0))) (by kernel_rfl) (by kernel_rfl) (by kernel_rfl) (by kernel_rfl) (by kernel_rfl) (fun _ _ _ h => h) (yieldsIf_load_mid (by kernel_rfl) 31 (.tmp 1) (by kernel_rfl) g 0 (by kernel_rfl) (posL (V.start 0)) _ (fun _ h => pos_range h.1.heap) hu rfl hinfo) hSd ?_
  simp only [Act.put, List.setIfInBounds_toArray, List.set_cons_succ, List.set_cons_zero]
  refine takeD 2 (some 15) (.agg (posC (V.start 0))) (by kernel_rfl) (by kernel_rfl) (by kernel_rfl) (by kernel_rfl) (by kernel_rfl) (fun _ _ _ h => h) (yieldsIf_load_mid (by kernel_rfl) 31 (.tmp 1) (by kernel_rfl) g 0 (by kernel_rfl) (posL (V.start 0)) _ (fun _ h => pos_range h.1.heap) hu rfl hinfo) hSd ?_
  simp only [Act.put, List.setIfInBounds_toArray, List.set_cons_succ, List.set_cons_zero]
  refine takeD 3 (some 16) (.agg (posC (V.start 0))) (by kernel_rfl) (by kernel_rfl) (by kernel_rfl) (by kernel_rfl) (by kernel_rfl) (fun _ _ _ h => h) (yieldsIf_load_mid (by kernel_rfl) 31 (.tmp 1) (by kernel_rfl) g 0 (by kernel_rfl) (posL (V.start 0)) _ (fun _ h => pos_range h.1.heap) hu rfl hinfo) hSd ?_
  simp only [Act.put, List.setIfInBounds_toArray, List.set_cons_succ, List.set_cons_zero]
  have hlt := hSd.1.lt
  have HS0 := Lib.hid hSd
  have HS1 : Hid (PosAt (W1.alloc (.cells Tryd.zeroCells31 31)) g (V.start 0) ∧ Below w.heap.size w (W1.alloc (.cells Tryd.zeroCells31 31))) := Lib.hid ⟨HS0.out.1.alloc _, HS0.out.2.alloc HS0.out.2.size _⟩
  have HS2 : Hid (PosAt ((W1.alloc (.cells Tryd.zeroCells31 31)).alloc (.cells Tryd.zeroCells31 31)) g (V.start 0) ∧ Below w.heap.size w ((W1.alloc (.cells Tryd.zeroCells31 31)).alloc (.cells Tryd.zeroCells31 31))) := Lib.hid ⟨HS1.out.1.alloc _, HS1.out.2.alloc HS1.out.2.size _⟩
  have HS3 : Hid (PosAt (((W1.alloc (.cells Tryd.zeroCells31 31)).alloc (.cells Tryd.zeroCells31 31)).alloc (.cells Tryd.zeroCells31 31)) g (V.start 0) ∧ Below w.heap.size w (((W1.alloc (.cells Tryd.zeroCells31 31)).alloc (.cells Tryd.zeroCells31 31)).alloc (.cells Tryd.zeroCells31 31))) := Lib.hid ⟨HS2.out.1.alloc _, HS2.out.2.alloc HS2.out.2.size _⟩
  have HS4 : Hid (PosAt ((((W1.alloc (.cells Tryd.zeroCells31 31)).alloc (.cells Tryd.zeroCells31 31)).alloc (.cells Tryd.zeroCells31 31)).alloc (.cells Tryd.zeroCells31 31)) g (V.start 0) ∧ Below w.heap.size w ((((W1.alloc (.cells Tryd.zeroCells31 31)).alloc (.cells Tryd.zeroCells31 31)).alloc (.cells Tryd.zeroCells31 31)).alloc (.cells Tryd.zeroCells31 31))) := Lib.hid ⟨HS3.out.1.alloc _, HS3.out.2.alloc HS3.out.2.size _⟩
  refine cutK4 (F := fun a b c d => Dist W1.heap.size a b c d) (G := ?G) ?rest ?main
  case main =>
    intro key
    refine wpAnyH_all (rs := [4, 5, 6, 7]) (by kernel_rfl) (by simp) (fun i hi => ?_)
    obtain rfl | rfl | rfl | rfl : i = 4 ∨ i = 5 ∨ i = 6 ∨ i = 7 := by simpa using hi
    · clear hi
      refine wpOp_at rfl rfl ?_
      unfold Oper.wp
      go_simp
      refine ⟨HS1.out, ?_⟩
      refine wpAnyH_all (rs := [5, 6, 7]) (by kernel_rfl) (by simp) (fun i hi => ?_)
      obtain rfl | rfl | rfl : i = 5 ∨ i = 6 ∨ i = 7 := by simpa using hi
      · clear hi
        refine wpOp_at rfl rfl ?_
        unfold Oper.wp
        go_simp
        refine ⟨HS2.out, ?_⟩
        refine wpAnyH_all (rs := [6, 7]) (by kernel_rfl) (by simp) (fun i hi => ?_)
        obtain rfl | rfl : i = 6 ∨ i = 7 := by simpa using hi
        · clear hi
          refine wpOp_at rfl rfl ?_
          unfold Oper.wp
          go_simp
          refine ⟨HS3.out, ?_⟩
          refine wpAnyH_all (rs := [7]) (by kernel_rfl) (by simp) (fun i hi => ?_)
          obtain rfl : i = 7 := by simpa using hi
          clear hi
          refine wpOp_at rfl rfl ?_
          unfold Oper.wp
          go_simp
          refine ⟨HS4.out, ?_⟩
          obtain ⟨b4, h4⟩ : ∃ b, W1.heap.size = b := ⟨_, rfl⟩
          obtain ⟨b5, h5⟩ : ∃ b, W1.heap.size + 1 = b := ⟨_, rfl⟩
          obtain ⟨b6, h6⟩ : ∃ b, W1.heap.size + 2 = b := ⟨_, rfl⟩
          obtain ⟨b7, h7⟩ : ∃ b, W1.heap.size + 3 = b := ⟨_, rfl⟩
          have hD : Dist W1.heap.size b4 b5 b6 b7 := by unfold Dist; omega
          rw [h7, h6, h5]
          rw [h4]
          exact key b4 b5 b6 b7 hD
        · clear hi
          refine wpOp_at rfl rfl ?_
          unfold Oper.wp
          go_simp
          refine ⟨HS3.out, ?_⟩
          refine wpAnyH_all (rs := [6]) (by kernel_rfl) (by simp) (fun i hi => ?_)
          obtain rfl : i = 6 := by simpa using hi
          clear hi
          refine wpOp_at rfl rfl ?_
          unfold Oper.wp
          go_simp
          refine ⟨HS4.out, ?_⟩
          obtain ⟨b4, h4⟩ : ∃ b, W1.heap.size = b := ⟨_, rfl⟩
          obtain ⟨b5, h5⟩ : ∃ b, W1.heap.size + 1 = b := ⟨_, rfl⟩
          obtain ⟨b6, h6⟩ : ∃ b, W1.heap.size + 3 = b := ⟨_, rfl⟩
          obtain ⟨b7, h7⟩ : ∃ b, W1.heap.size + 2 = b := ⟨_, rfl⟩
          have hD : Dist W1.heap.size b4 b5 b6 b7 := by unfold Dist; omega
          rw [h6, h7, h5]
          rw [h4]
          exact key b4 b5 b6 b7 hD
      · clear hi
        refine wpOp_at rfl rfl ?_
        unfold Oper.wp
        go_simp
        refine ⟨HS2.out, ?_⟩
        refine wpAnyH_all (rs := [5, 7]) (by kernel_rfl) (by simp) (fun i hi => ?_)
        obtain rfl | rfl : i = 5 ∨ i = 7 := by simpa using hi
        · clear hi
          refine wpOp_at rfl rfl ?_
          unfold Oper.wp
          go_simp
          refine ⟨HS3.out, ?_⟩
          refine wpAnyH_all (rs := [7]) (by kernel_rfl) (by simp) (fun i hi => ?_)
          obtain rfl : i = 7 := by simpa using hi
          clear hi
          refine wpOp_at rfl rfl ?_
          unfold Oper.wp
          go_simp
          refine ⟨HS4.out, ?_⟩
          obtain ⟨b4, h4⟩ : ∃ b, W1.heap.size = b := ⟨_, rfl⟩
          obtain ⟨b5, h5⟩ : ∃ b, W1.heap.size + 2 = b := ⟨_, rfl⟩
          obtain ⟨b6, h6⟩ : ∃ b, W1.heap.size + 1 = b := ⟨_, rfl⟩
          obtain ⟨b7, h7⟩ : ∃ b, W1.heap.size + 3 = b := ⟨_, rfl⟩
          have hD : Dist W1.heap.size b4 b5 b6 b7 := by unfold Dist; omega
          rw [h7, h5, h6]
          rw [h4]
          exact key b4 b5 b6 b7 hD
        · clear hi
          refine wpOp_at rfl rfl ?_
          unfold Oper.wp
          go_simp
          refine ⟨HS3.out, ?_⟩
          refine wpAnyH_all (rs := [5]) (by kernel_rfl) (by simp) (fun i hi => ?_)
          obtain rfl : i = 5 := by simpa using hi
          clear hi
          refine wpOp_at rfl rfl ?_
          unfold Oper.wp
          go_simp
          refine ⟨HS4.out, ?_⟩
          obtain ⟨b4, h4⟩ : ∃ b, W1.heap.size = b := ⟨_, rfl⟩
          obtain ⟨b5, h5⟩ : ∃ b, W1.heap.size + 3 = b := ⟨_, rfl⟩
          obtain ⟨b6, h6⟩ : ∃ b, W1.heap.size + 1 = b := ⟨_, rfl⟩
          obtain ⟨b7, h7⟩ : ∃ b, W1.heap.size + 2 = b := ⟨_, rfl⟩
          have hD : Dist W1.heap.size b4 b5 b6 b7 := by unfold Dist; omega
          rw [h5, h7, h6]
          rw [h4]
          exact key b4 b5 b6 b7 hD
      · clear hi
        refine wpOp_at rfl rfl ?_
        unfold Oper.wp
        go_simp
        refine ⟨HS2.out, ?_⟩
        refine wpAnyH_all (rs := [5, 6]) (by kernel_rfl) (by simp) (fun i hi => ?_)
        obtain rfl | rfl : i = 5 ∨ i = 6 := by simpa using hi
        · clear hi
          refine wpOp_at rfl rfl ?_
          unfold Oper.wp
          go_simp
          refine ⟨HS3.out, ?_⟩
          refine wpAnyH_all (rs := [6]) (by kernel_rfl) (by simp) (fun i hi => ?_)
          obtain rfl : i = 6 := by simpa using hi
          clear hi
          refine wpOp_at rfl rfl ?_
          unfold Oper.wp
          go_simp
          refine ⟨HS4.out, ?_⟩
          obtain ⟨b4, h4⟩ : ∃ b, W1.heap.size = b := ⟨_, rfl⟩
          obtain ⟨b5, h5⟩ : ∃ b, W1.heap.size + 2 = b := ⟨_, rfl⟩
          obtain ⟨b6, h6⟩ : ∃ b, W1.heap.size + 3 = b := ⟨_, rfl⟩
          obtain ⟨b7, h7⟩ : ∃ b, W1.heap.size + 1 = b := ⟨_, rfl⟩
          have hD : Dist W1.heap.size b4 b5 b6 b7 := by unfold Dist; omega
          rw [h6, h5, h7]
          rw [h4]
          exact key b4 b5 b6 b7 hD
        · clear hi
          refine wpOp_at rfl rfl ?_
          unfold Oper.wp
          go_simp
          refine ⟨HS3.out, ?_⟩
          refine wpAnyH_all (rs := [5]) (by kernel_rfl) (by simp) (fun i hi => ?_)
          obtain rfl : i = 5 := by simpa using hi
          clear hi
          refine wpOp_at rfl rfl ?_
          unfold Oper.wp
          go_simp
          refine ⟨HS4.out, ?_⟩
          obtain ⟨b4, h4⟩ : ∃ b, W1.heap.size = b := ⟨_, rfl⟩
          obtain ⟨b5, h5⟩ : ∃ b, W1.heap.size + 3 = b := ⟨_, rfl⟩
          obtain ⟨b6, h6⟩ : ∃ b, W1.heap.size + 2 = b := ⟨_, rfl⟩
          obtain ⟨b7, h7⟩ : ∃ b, W1.heap.size + 1 = b := ⟨_, rfl⟩
          have hD : Dist W1.heap.size b4 b5 b6 b7 := by unfold Dist; omega
          rw [h5, h6, h7]
          rw [h4]
          exact key b4 b5 b6 b7 hD
    · clear hi
      refine wpOp_at rfl rfl ?_
      unfold Oper.wp
      go_simp
      refine ⟨HS1.out, ?_⟩
      refine wpAnyH_all (rs := [4, 6, 7]) (by kernel_rfl) (by simp) (fun i hi => ?_)
      obtain rfl | rfl | rfl : i = 4 ∨ i = 6 ∨ i = 7 := by simpa using hi
      · clear hi
        refine wpOp_at rfl rfl ?_
        unfold Oper.wp
        go_simp
        refine ⟨HS2.out, ?_⟩
        refine wpAnyH_all (rs := [6, 7]) (by kernel_rfl) (by simp) (fun i hi => ?_)
        obtain rfl | rfl : i = 6 ∨ i = 7 := by simpa using hi
        · clear hi
          refine wpOp_at rfl rfl ?_
          unfold Oper.wp
          go_simp
          refine ⟨HS3.out, ?_⟩
          refine wpAnyH_all (rs := [7]) (by kernel_rfl) (by simp) (fun i hi => ?_)
          obtain rfl : i = 7 := by simpa using hi
          clear hi
          refine wpOp_at rfl rfl ?_
          unfold Oper.wp
          go_simp
          refine ⟨HS4.out, ?_⟩
          obtain ⟨b4, h4⟩ : ∃ b, W1.heap.size + 1 = b := ⟨_, rfl⟩
          obtain ⟨b5, h5⟩ : ∃ b, W1.heap.size = b := ⟨_, rfl⟩
          obtain ⟨b6, h6⟩ : ∃ b, W1.heap.size + 2 = b := ⟨_, rfl⟩
          obtain ⟨b7, h7⟩ : ∃ b, W1.heap.size + 3 = b := ⟨_, rfl⟩
          have hD : Dist W1.heap.size b4 b5 b6 b7 := by unfold Dist; omega
          rw [h7, h6, h4]
          rw [h5]
          exact key b4 b5 b6 b7 hD
        · clear hi
          refine wpOp_at rfl rfl ?_
          unfold Oper.wp
          go_simp
          refine ⟨HS3.out, ?_⟩
          refine wpAnyH_all (rs := [6]) (by kernel_rfl) (by simp) (fun i hi => ?_)
          obtain rfl : i = 6 := by simpa using hi
          clear hi
          refine wpOp_at rfl rfl ?_
          unfold Oper.wp
          go_simp
          refine ⟨HS4.out, ?_⟩
          obtain ⟨b4, h4⟩ : ∃ b, W1.heap.size + 1 = b := ⟨_, rfl⟩
          obtain ⟨b5, h5⟩ : ∃ b, W1.heap.size = b := ⟨_, rfl⟩
          obtain ⟨b6, h6⟩ : ∃ b, W1.heap.size + 3 = b := ⟨_, rfl⟩
          obtain ⟨b7, h7⟩ : ∃ b, W1.heap.size + 2 = b := ⟨_, rfl⟩
          have hD : Dist W1.heap.size b4 b5 b6 b7 := by unfold Dist; omega
          rw [h6, h7, h4]
          rw [h5]
          exact key b4 b5 b6 b7 hD
      · clear hi
        refine wpOp_at rfl rfl ?_
        unfold Oper.wp
        go_simp
        refine ⟨HS2.out, ?_⟩
        refine wpAnyH_all (rs := [4, 7]) (by kernel_rfl) (by simp) (fun i hi => ?_)
        obtain rfl | rfl : i = 4 ∨ i = 7 := by simpa using hi
        · clear hi
          refine wpOp_at rfl rfl ?_
          unfold Oper.wp
          go_simp
          refine ⟨HS3.out, ?_⟩
          refine wpAnyH_all (rs := [7]) (by kernel_rfl) (by simp) (fun i hi => ?_)
          obtain rfl : i = 7 := by simpa using hi
          clear hi
          refine wpOp_at rfl rfl ?_
          unfold Oper.wp
          go_simp
          refine ⟨HS4.out, ?_⟩
          obtain ⟨b4, h4⟩ : ∃ b, W1.heap.size + 2 = b := ⟨_, rfl⟩
          obtain ⟨b5, h5⟩ : ∃ b, W1.heap.size = b := ⟨_, rfl⟩
          obtain ⟨b6, h6⟩ : ∃ b, W1.heap.size + 1 = b := ⟨_, rfl⟩
          obtain ⟨b7, h7⟩ : ∃ b, W1.heap.size + 3 = b := ⟨_, rfl⟩
          have hD : Dist W1.heap.size b4 b5 b6 b7 := by unfold Dist; omega
          rw [h7, h4, h6]
          rw [h5]
          exact key b4 b5 b6 b7 hD
        · clear hi
          refine wpOp_at rfl rfl ?_
          unfold Oper.wp
          go_simp
          refine ⟨HS3.out, ?_⟩
          refine wpAnyH_all (rs := [4]) (by kernel_rfl) (by simp) (fun i hi => ?_)
          obtain rfl : i = 4 := by simpa using hi
          clear hi
          refine wpOp_at rfl rfl ?_
          unfold Oper.wp
          go_simp
          refine ⟨HS4.out, ?_⟩
          obtain ⟨b4, h4⟩ : ∃ b, W1.heap.size + 3 = b := ⟨_, rfl⟩
          obtain ⟨b5, h5⟩ : ∃ b, W1.heap.size = b := ⟨_, rfl⟩
          obtain ⟨b6, h6⟩ : ∃ b, W1.heap.size + 1 = b := ⟨_, rfl⟩
          obtain ⟨b7, h7⟩ : ∃ b, W1.heap.size + 2 = b := ⟨_, rfl⟩
          have hD : Dist W1.heap.size b4 b5 b6 b7 := by unfold Dist; omega
          rw [h4, h7, h6]
          rw [h5]
          exact key b4 b5 b6 b7 hD
      · clear hi
        refine wpOp_at rfl rfl ?_
        unfold Oper.wp
        go_simp
        refine ⟨HS2.out, ?_⟩
        refine wpAnyH_all (rs := [4, 6]) (by kernel_rfl) (by simp) (fun i hi => ?_)
        obtain rfl | rfl : i = 4 ∨ i = 6 := by simpa using hi
        · clear hi
          refine wpOp_at rfl rfl ?_
          unfold Oper.wp
          go_simp
          refine ⟨HS3.out, ?_⟩
          refine wpAnyH_all (rs := [6]) (by kernel_rfl) (by simp) (fun i hi => ?_)
          obtain rfl : i = 6 := by simpa using hi
          clear hi
          refine wpOp_at rfl rfl ?_
          unfold Oper.wp
          go_simp
          refine ⟨HS4.out, ?_⟩
          obtain ⟨b4, h4⟩ : ∃ b, W1.heap.size + 2 = b := ⟨_, rfl⟩
          obtain ⟨b5, h5⟩ : ∃ b, W1.heap.size = b := ⟨_, rfl⟩
          obtain ⟨b6, h6⟩ : ∃ b, W1.heap.size + 3 = b := ⟨_, rfl⟩
          obtain ⟨b7, h7⟩ : ∃ b, W1.heap.size + 1 = b := ⟨_, rfl⟩
          have hD : Dist W1.heap.size b4 b5 b6 b7 := by unfold Dist; omega
          rw [h6, h4, h7]
          rw [h5]
          exact key b4 b5 b6 b7 hD
        · clear hi
          refine wpOp_at rfl rfl ?_
          unfold Oper.wp
          go_simp
          refine ⟨HS3.out, ?_⟩
          refine wpAnyH_all (rs := [4]) (by kernel_rfl) (by simp) (fun i hi => ?_)
          obtain rfl : i = 4 := by simpa using hi
          clear hi
          refine wpOp_at rfl rfl ?_
          unfold Oper.wp
          go_simp
          refine ⟨HS4.out, ?_⟩
          obtain ⟨b4, h4⟩ : ∃ b, W1.heap.size + 3 = b := ⟨_, rfl⟩
          obtain ⟨b5, h5⟩ : ∃ b, W1.heap.size = b := ⟨_, rfl⟩
          obtain ⟨b6, h6⟩ : ∃ b, W1.heap.size + 2 = b := ⟨_, rfl⟩
          obtain ⟨b7, h7⟩ : ∃ b, W1.heap.size + 1 = b := ⟨_, rfl⟩
          have hD : Dist W1.heap.size b4 b5 b6 b7 := by unfold Dist; omega
          rw [h4, h6, h7]
          rw [h5]
          exact key b4 b5 b6 b7 hD
    · clear hi
      refine wpOp_at rfl rfl ?_
      unfold Oper.wp
      go_simp
      refine ⟨HS1.out, ?_⟩
      refine wpAnyH_all (rs := [4, 5, 7]) (by kernel_rfl) (by simp) (fun i hi => ?_)
      obtain rfl | rfl | rfl : i = 4 ∨ i = 5 ∨ i = 7 := by simpa using hi
      · clear hi
        refine wpOp_at rfl rfl ?_
        unfold Oper.wp
        go_simp
        refine ⟨HS2.out, ?_⟩
        refine wpAnyH_all (rs := [5, 7]) (by kernel_rfl) (by simp) (fun i hi => ?_)
        obtain rfl | rfl : i = 5 ∨ i = 7 := by simpa using hi
        · clear hi
          refine wpOp_at rfl rfl ?_
          unfold Oper.wp
          go_simp
          refine ⟨HS3.out, ?_⟩
          refine wpAnyH_all (rs := [7]) (by kernel_rfl) (by simp) (fun i hi => ?_)
          obtain rfl : i = 7 := by simpa using hi
          clear hi
          refine wpOp_at rfl rfl ?_
          unfold Oper.wp
          go_simp
          refine ⟨HS4.out, ?_⟩
          obtain ⟨b4, h4⟩ : ∃ b, W1.heap.size + 1 = b := ⟨_, rfl⟩
          obtain ⟨b5, h5⟩ : ∃ b, W1.heap.size + 2 = b := ⟨_, rfl⟩
          obtain ⟨b6, h6⟩ : ∃ b, W1.heap.size = b := ⟨_, rfl⟩
          obtain ⟨b7, h7⟩ : ∃ b, W1.heap.size + 3 = b := ⟨_, rfl⟩
          have hD : Dist W1.heap.size b4 b5 b6 b7 := by unfold Dist; omega
          rw [h7, h5, h4]
          rw [h6]
          exact key b4 b5 b6 b7 hD
        · clear hi
          refine wpOp_at rfl rfl ?_
          unfold Oper.wp
          go_simp
          refine ⟨HS3.out, ?_⟩
          refine wpAnyH_all (rs := [5]) (by kernel_rfl) (by simp) (fun i hi => ?_)
          obtain rfl : i = 5 := by simpa using hi
          clear hi
          refine wpOp_at rfl rfl ?_
          unfold Oper.wp
          go_simp
          refine ⟨HS4.out, ?_⟩
          obtain ⟨b4, h4⟩ : ∃ b, W1.heap.size + 1 = b := ⟨_, rfl⟩
          obtain ⟨b5, h5⟩ : ∃ b, W1.heap.size + 3 = b := ⟨_, rfl⟩
          obtain ⟨b6, h6⟩ : ∃ b, W1.heap.size = b := ⟨_, rfl⟩
          obtain ⟨b7, h7⟩ : ∃ b, W1.heap.size + 2 = b := ⟨_, rfl⟩
          have hD : Dist W1.heap.size b4 b5 b6 b7 := by unfold Dist; omega
          rw [h5, h7, h4]
          rw [h6]
          exact key b4 b5 b6 b7 hD
      · clear hi
        refine wpOp_at rfl rfl ?_
        unfold Oper.wp
        go_simp
        refine ⟨HS2.out, ?_⟩
        refine wpAnyH_all (rs := [4, 7]) (by kernel_rfl) (by simp) (fun i hi => ?_)
        obtain rfl | rfl : i = 4 ∨ i = 7 := by simpa using hi
        · clear hi
          refine wpOp_at rfl rfl ?_
          unfold Oper.wp
          go_simp
          refine ⟨HS3.out, ?_⟩
          refine wpAnyH_all (rs := [7]) (by kernel_rfl) (by simp) (fun i hi => ?_)
          obtain rfl : i = 7 := by simpa using hi
          clear hi
          refine wpOp_at rfl rfl ?_
          unfold Oper.wp
          go_simp
          refine ⟨HS4.out, ?_⟩
          obtain ⟨b4, h4⟩ : ∃ b, W1.heap.size + 2 = b := ⟨_, rfl⟩
          obtain ⟨b5, h5⟩ : ∃ b, W1.heap.size + 1 = b := ⟨_, rfl⟩
          obtain ⟨b6, h6⟩ : ∃ b, W1.heap.size = b := ⟨_, rfl⟩
          obtain ⟨b7, h7⟩ : ∃ b, W1.heap.size + 3 = b := ⟨_, rfl⟩
          have hD : Dist W1.heap.size b4 b5 b6 b7 := by unfold Dist; omega
          rw [h7, h4, h5]
          rw [h6]
          exact key b4 b5 b6 b7 hD
        · clear hi
          refine wpOp_at rfl rfl ?_
          unfold Oper.wp
          go_simp
          refine ⟨HS3.out, ?_⟩
          refine wpAnyH_all (rs := [4]) (by kernel_rfl) (by simp) (fun i hi => ?_)
          obtain rfl : i = 4 := by simpa using hi
          clear hi
          refine wpOp_at rfl rfl ?_
          unfold Oper.wp
          go_simp
          refine ⟨HS4.out, ?_⟩
          obtain ⟨b4, h4⟩ : ∃ b, W1.heap.size + 3 = b := ⟨_, rfl⟩
          obtain ⟨b5, h5⟩ : ∃ b, W1.heap.size + 1 = b := ⟨_, rfl⟩
          obtain ⟨b6, h6⟩ : ∃ b, W1.heap.size = b := ⟨_, rfl⟩
          obtain ⟨b7, h7⟩ : ∃ b, W1.heap.size + 2 = b := ⟨_, rfl⟩
          have hD : Dist W1.heap.size b4 b5 b6 b7 := by unfold Dist; omega
          rw [h4, h7, h5]
          rw [h6]
          exact key b4 b5 b6 b7 hD
      · clear hi
        refine wpOp_at rfl rfl ?_
        unfold Oper.wp
        go_simp
        refine ⟨HS2.out, ?_⟩
        refine wpAnyH_all (rs := [4, 5]) (by kernel_rfl) (by simp) (fun i hi => ?_)
        obtain rfl | rfl : i = 4 ∨ i = 5 := by simpa using hi
        · clear hi
          refine wpOp_at rfl rfl ?_
          unfold Oper.wp
          go_simp
          refine ⟨HS3.out, ?_⟩
          refine wpAnyH_all (rs := [5]) (by kernel_rfl) (by simp) (fun i hi => ?_)
          obtain rfl : i = 5 := by simpa using hi
          clear hi
          refine wpOp_at rfl rfl ?_
          unfold Oper.wp
          go_simp
          refine ⟨HS4.out, ?_⟩
          obtain ⟨b4, h4⟩ : ∃ b, W1.heap.size + 2 = b := ⟨_, rfl⟩
          obtain ⟨b5, h5⟩ : ∃ b, W1.heap.size + 3 = b := ⟨_, rfl⟩
          obtain ⟨b6, h6⟩ : ∃ b, W1.heap.size = b := ⟨_, rfl⟩
          obtain ⟨b7, h7⟩ : ∃ b, W1.heap.size + 1 = b := ⟨_, rfl⟩
          have hD : Dist W1.heap.size b4 b5 b6 b7 := by unfold Dist; omega
          rw [h5, h4, h7]
          rw [h6]
          exact key b4 b5 b6 b7 hD
        · clear hi
          refine wpOp_at rfl rfl ?_
          unfold Oper.wp
          go_simp
          refine ⟨HS3.out, ?_⟩
          refine wpAnyH_all (rs := [4]) (by kernel_rfl) (by simp) (fun i hi => ?_)
          obtain rfl : i = 4 := by simpa using hi
          clear hi
          refine wpOp_at rfl rfl ?_
          unfold Oper.wp
          go_simp
          refine ⟨HS4.out, ?_⟩
          obtain ⟨b4, h4⟩ : ∃ b, W1.heap.size + 3 = b := ⟨_, rfl⟩
          obtain ⟨b5, h5⟩ : ∃ b, W1.heap.size + 2 = b := ⟨_, rfl⟩
          obtain ⟨b6, h6⟩ : ∃ b, W1.heap.size = b := ⟨_, rfl⟩
          obtain ⟨b7, h7⟩ : ∃ b, W1.heap.size + 1 = b := ⟨_, rfl⟩
          have hD : Dist W1.heap.size b4 b5 b6 b7 := by unfold Dist; omega
          rw [h4, h5, h7]
          rw [h6]
          exact key b4 b5 b6 b7 hD
    · clear hi
      refine wpOp_at rfl rfl ?_
      unfold Oper.wp
      go_simp
      refine ⟨HS1.out, ?_⟩
      refine wpAnyH_all (rs := [4, 5, 6]) (by kernel_rfl) (by simp) (fun i hi => ?_)
      obtain rfl | rfl | rfl : i = 4 ∨ i = 5 ∨ i = 6 := by simpa using hi
      · clear hi
        refine wpOp_at rfl rfl ?_
        unfold Oper.wp
        go_simp
        refine ⟨HS2.out, ?_⟩
        refine wpAnyH_all (rs := [5, 6]) (by kernel_rfl) (by simp) (fun i hi => ?_)
        obtain rfl | rfl : i = 5 ∨ i = 6 := by simpa using hi
        · clear hi
          refine wpOp_at rfl rfl ?_
          unfold Oper.wp
          go_simp
          refine ⟨HS3.out, ?_⟩
          refine wpAnyH_all (rs := [6]) (by kernel_rfl) (by simp) (fun i hi => ?_)
          obtain rfl : i = 6 := by simpa using hi
          clear hi
          refine wpOp_at rfl rfl ?_
          unfold Oper.wp
          go_simp
          refine ⟨HS4.out, ?_⟩
          obtain ⟨b4, h4⟩ : ∃ b, W1.heap.size + 1 = b := ⟨_, rfl⟩
          obtain ⟨b5, h5⟩ : ∃ b, W1.heap.size + 2 = b := ⟨_, rfl⟩
          obtain ⟨b6, h6⟩ : ∃ b, W1.heap.size + 3 = b := ⟨_, rfl⟩
          obtain ⟨b7, h7⟩ : ∃ b, W1.heap.size = b := ⟨_, rfl⟩
          have hD : Dist W1.heap.size b4 b5 b6 b7 := by unfold Dist; omega
          rw [h6, h5, h4]
          rw [h7]
          exact key b4 b5 b6 b7 hD
        · clear hi
          refine wpOp_at rfl rfl ?_
          unfold Oper.wp
          go_simp
          refine ⟨HS3.out, ?_⟩
          refine wpAnyH_all (rs := [5]) (by kernel_rfl) (by simp) (fun i hi => ?_)
          obtain rfl : i = 5 := by simpa using hi
          clear hi
          refine wpOp_at rfl rfl ?_
          unfold Oper.wp
          go_simp
          refine ⟨HS4.out, ?_⟩
          obtain ⟨b4, h4⟩ : ∃ b, W1.heap.size + 1 = b := ⟨_, rfl⟩
          obtain ⟨b5, h5⟩ : ∃ b, W1.heap.size + 3 = b := ⟨_, rfl⟩
          obtain ⟨b6, h6⟩ : ∃ b, W1.heap.size + 2 = b := ⟨_, rfl⟩
          obtain ⟨b7, h7⟩ : ∃ b, W1.heap.size = b := ⟨_, rfl⟩
          have hD : Dist W1.heap.size b4 b5 b6 b7 := by unfold Dist; omega
          rw [h5, h6, h4]
          rw [h7]
          exact key b4 b5 b6 b7 hD
      · clear hi
        refine wpOp_at rfl rfl ?_
        unfold Oper.wp
        go_simp
        refine ⟨HS2.out, ?_⟩
        refine wpAnyH_all (rs := [4, 6]) (by kernel_rfl) (by simp) (fun i hi => ?_)
        obtain rfl | rfl : i = 4 ∨ i = 6 := by simpa using hi
        · clear hi
          refine wpOp_at rfl rfl ?_
          unfold Oper.wp
          go_simp
          refine ⟨HS3.out, ?_⟩
          refine wpAnyH_all (rs := [6]) (by kernel_rfl) (by simp) (fun i hi => ?_)
          obtain rfl : i = 6 := by simpa using hi
          clear hi
          refine wpOp_at rfl rfl ?_
          unfold Oper.wp
          go_simp
          refine ⟨HS4.out, ?_⟩
          obtain ⟨b4, h4⟩ : ∃ b, W1.heap.size + 2 = b := ⟨_, rfl⟩
          obtain ⟨b5, h5⟩ : ∃ b, W1.heap.size + 1 = b := ⟨_, rfl⟩
          obtain ⟨b6, h6⟩ : ∃ b, W1.heap.size + 3 = b := ⟨_, rfl⟩
          obtain ⟨b7, h7⟩ : ∃ b, W1.heap.size = b := ⟨_, rfl⟩
          have hD : Dist W1.heap.size b4 b5 b6 b7 := by unfold Dist; omega
          rw [h6, h4, h5]
          rw [h7]
          exact key b4 b5 b6 b7 hD
        · clear hi
          refine wpOp_at rfl rfl ?_
          unfold Oper.wp
          go_simp
          refine ⟨HS3.out, ?_⟩
          refine wpAnyH_all (rs := [4]) (by kernel_rfl) (by simp) (fun i hi => ?_)
          obtain rfl : i = 4 := by simpa using hi
          clear hi
          refine wpOp_at rfl rfl ?_
          unfold Oper.wp
          go_simp
          refine ⟨HS4.out, ?_⟩
          obtain ⟨b4, h4⟩ : ∃ b, W1.heap.size + 3 = b := ⟨_, rfl⟩
          obtain ⟨b5, h5⟩ : ∃ b, W1.heap.size + 1 = b := ⟨_, rfl⟩
          obtain ⟨b6, h6⟩ : ∃ b, W1.heap.size + 2 = b := ⟨_, rfl⟩
          obtain ⟨b7, h7⟩ : ∃ b, W1.heap.size = b := ⟨_, rfl⟩
          have hD : Dist W1.heap.size b4 b5 b6 b7 := by unfold Dist; omega
          rw [h4, h6, h5]
          rw [h7]
          exact key b4 b5 b6 b7 hD
      · clear hi
        refine wpOp_at rfl rfl ?_
        unfold Oper.wp
        go_simp
        refine ⟨HS2.out, ?_⟩
        refine wpAnyH_all (rs := [4, 5]) (by kernel_rfl) (by simp) (fun i hi => ?_)
        obtain rfl | rfl : i = 4 ∨ i = 5 := by simpa using hi
        · clear hi
          refine wpOp_at rfl rfl ?_
          unfold Oper.wp
          go_simp
          refine ⟨HS3.out, ?_⟩
          refine wpAnyH_all (rs := [5]) (by kernel_rfl) (by simp) (fun i hi => ?_)
          obtain rfl : i = 5 := by simpa using hi
          clear hi
          refine wpOp_at rfl rfl ?_
          unfold Oper.wp
          go_simp
          refine ⟨HS4.out, ?_⟩
          obtain ⟨b4, h4⟩ : ∃ b, W1.heap.size + 2 = b := ⟨_, rfl⟩
          obtain ⟨b5, h5⟩ : ∃ b, W1.heap.size + 3 = b := ⟨_, rfl⟩
          obtain ⟨b6, h6⟩ : ∃ b, W1.heap.size + 1 = b := ⟨_, rfl⟩
          obtain ⟨b7, h7⟩ : ∃ b, W1.heap.size = b := ⟨_, rfl⟩
          have hD : Dist W1.heap.size b4 b5 b6 b7 := by unfold Dist; omega
          rw [h5, h4, h6]
          rw [h7]
          exact key b4 b5 b6 b7 hD
        · clear hi
          refine wpOp_at rfl rfl ?_
          unfold Oper.wp
          go_simp
          refine ⟨HS3.out, ?_⟩
          refine wpAnyH_all (rs := [4]) (by kernel_rfl) (by simp) (fun i hi => ?_)
          obtain rfl : i = 4 := by simpa using hi
          clear hi
          refine wpOp_at rfl rfl ?_
          unfold Oper.wp
          go_simp
          refine ⟨HS4.out, ?_⟩
          obtain ⟨b4, h4⟩ : ∃ b, W1.heap.size + 3 = b := ⟨_, rfl⟩
          obtain ⟨b5, h5⟩ : ∃ b, W1.heap.size + 2 = b := ⟨_, rfl⟩
          obtain ⟨b6, h6⟩ : ∃ b, W1.heap.size + 1 = b := ⟨_, rfl⟩
          obtain ⟨b7, h7⟩ : ∃ b, W1.heap.size = b := ⟨_, rfl⟩
          have hD : Dist W1.heap.size b4 b5 b6 b7 := by unfold Dist; omega
          rw [h4, h5, h6]
          rw [h7]
          exact key b4 b5 b6 b7 hD
  case rest =>
    intro b4 b5 b6 b7 hD
    obtain ⟨⟨n1, n2, n3, n4, n5, n6⟩, ⟨d1, d2⟩, ⟨d3, d4⟩, ⟨d5, d6⟩, d7, d8⟩ := hD
    have r4 := rows4 W1 31 Tryd.zeroCells31 b4 d1 d2
    have r5 := rows4 W1 31 Tryd.zeroCells31 b5 d3 d4
    have r6 := rows4 W1 31 Tryd.zeroCells31 b6 d5 d6
    have r7 := rows4 W1 31 Tryd.zeroCells31 b7 d7 d8
    have hS := HS4.out
    have HNe := Lib.hid (show (g < b4 ∧ g < b5 ∧ g < b6 ∧ g < b7) ∧ (b4 ≠ b5 ∧ b4 ≠ b6 ∧ b4 ≠ b7 ∧ b5 ≠ b6 ∧ b5 ≠ b7 ∧ b6 ≠ b7) by omega)
    have HG := Lib.hid hsg
    clear HS0 HS1 HS2 HS3 HS4 hSd hlt n1 n2 n3 n4 n5 n6 d1 d2 d3 d4 d5 d6 d7 d8 hsg
    revert hS r4 r5 r6 r7
    generalize ((((W1.alloc (.cells Tryd.zeroCells31 31)).alloc (.cells Tryd.zeroCells31 31)).alloc (.cells Tryd.zeroCells31 31)).alloc (.cells Tryd.zeroCells31 31)) = V0
    intro r4 r5 r6 r7 hS
    refine takeOne 8 (by kernel_rfl) (by kernel_rfl) (by kernel_rfl) ?_
    refine wp_store_row 31 (.tmp 3) (.tmp 13) (by kernel_rfl) b4 (posC (V.start 0)) (by kernel_rfl) (by kernel_rfl) _ _ r4.heap (posC_info _) (by rw [zero31_size12, posC_size]) (posC_one _) ?_
    have hV := put_setRow V0 b4 (posC (V.start 0))
    have hq : PosAt (V0.setRow b4 (posC (V.start 0))) b4 (V.start 0) := ⟨setRow_heap _ _ _ _ _ _ r4.heap⟩
    have hS' : PosAt (V0.setRow b4 (posC (V.start 0))) g (V.start 0) ∧ Below w.heap.size w (V0.setRow b4 (posC (V.start 0))) := ⟨hV.pos hS.1 (by have := HNe.out; omega), hV.below hS.2 (by have := HNe.out; have := HG.out; omega)⟩
    replace r5 := hV.row r5 (by have := HNe.out; omega)
    replace r6 := hV.row r6 (by have := HNe.out; omega)
    replace r7 := hV.row r7 (by have := HNe.out; omega)
    refine ⟨hS', ?_⟩
    have hall := And.intro hS' (And.intro hq (And.intro r5 (And.intro r6 r7)))
    clear hS hV hq hS' r5 r6 r7 r4
    revert hall
    generalize (V0.setRow b4 (posC (V.start 0))) = V1
    rintro ⟨hS, p4, r5, r6, r7⟩
    refine takeOne 9 (by kernel_rfl) (by kernel_rfl) (by kernel_rfl) ?_
    refine wp_store_row 31 (.tmp 4) (.tmp 14) (by kernel_rfl) b5 (posC (V.start 0)) (by kernel_rfl) (by kernel_rfl) _ _ r5.heap (posC_info _) (by rw [zero31_size12, posC_size]) (posC_one _) ?_
    have hV := put_setRow V1 b5 (posC (V.start 0))
    have hq : PosAt (V1.setRow b5 (posC (V.start 0))) b5 (V.start 0) := ⟨setRow_heap _ _ _ _ _ _ r5.heap⟩
    have hS' : PosAt (V1.setRow b5 (posC (V.start 0))) g (V.start 0) ∧ Below w.heap.size w (V1.setRow b5 (posC (V.start 0))) := ⟨hV.pos hS.1 (by have := HNe.out; omega), hV.below hS.2 (by have := HNe.out; have := HG.out; omega)⟩
    replace p4 := hV.pos p4 (by have := HNe.out; omega)
    replace r6 := hV.row r6 (by have := HNe.out; omega)
    replace r7 := hV.row r7 (by have := HNe.out; omega)
    refine ⟨hS', ?_⟩
    have hall := And.intro hS' (And.intro hq (And.intro p4 (And.intro r6 r7)))
    clear hS hV hq hS' p4 r6 r7 r5
    revert hall
    generalize (V1.setRow b5 (posC (V.start 0))) = V2
    rintro ⟨hS, p5, p4, r6, r7⟩
    refine takeOne 10 (by kernel_rfl) (by kernel_rfl) (by kernel_rfl) ?_
    refine wp_store_row 31 (.tmp 5) (.tmp 15) (by kernel_rfl) b6 (posC (V.start 0)) (by kernel_rfl) (by kernel_rfl) _ _ r6.heap (posC_info _) (by rw [zero31_size12, posC_size]) (posC_one _) ?_
    have hV := put_setRow V2 b6 (posC (V.start 0))
    have hq : PosAt (V2.setRow b6 (posC (V.start 0))) b6 (V.start 0) := ⟨setRow_heap _ _ _ _ _ _ r6.heap⟩
    have hS' : PosAt (V2.setRow b6 (posC (V.start 0))) g (V.start 0) ∧ Below w.heap.size w (V2.setRow b6 (posC (V.start 0))) := ⟨hV.pos hS.1 (by have := HNe.out; omega), hV.below hS.2 (by have := HNe.out; have := HG.out; omega)⟩
    replace p4 := hV.pos p4 (by have := HNe.out; omega)
    replace p5 := hV.pos p5 (by have := HNe.out; omega)
    replace r7 := hV.row r7 (by have := HNe.out; omega)
    refine ⟨hS', ?_⟩
    have hall := And.intro hS' (And.intro hq (And.intro p4 (And.intro p5 r7)))
    clear hS hV hq hS' p4 p5 r7 r6
    revert hall
    generalize (V2.setRow b6 (posC (V.start 0))) = V3
    rintro ⟨hS, p6, p4, p5, r7⟩
    refine takeOne 11 (by kernel_rfl) (by kernel_rfl) (by kernel_rfl) ?_
    refine wp_store_row 31 (.tmp 6) (.tmp 16) (by kernel_rfl) b7 (posC (V.start 0)) (by kernel_rfl) (by kernel_rfl) _ _ r7.heap (posC_info _) (by rw [zero31_size12, posC_size]) (posC_one _) ?_
    have hV := put_setRow V3 b7 (posC (V.start 0))
    have hq : PosAt (V3.setRow b7 (posC (V.start 0))) b7 (V.start 0) := ⟨setRow_heap _ _ _ _ _ _ r7.heap⟩
    have hS' : PosAt (V3.setRow b7 (posC (V.start 0))) g (V.start 0) ∧ Below w.heap.size w (V3.setRow b7 (posC (V.start 0))) := ⟨hV.pos hS.1 (by have := HNe.out; omega), hV.below hS.2 (by have := HNe.out; have := HG.out; omega)⟩
    replace p4 := hV.pos p4 (by have := HNe.out; omega)
    replace p5 := hV.pos p5 (by have := HNe.out; omega)
    replace p6 := hV.pos p6 (by have := HNe.out; omega)
    refine ⟨hS', ?_⟩
    have hall := And.intro hS' (And.intro hq (And.intro p4 (And.intro p5 p6)))
    clear hS hV hq hS' p4 p5 p6 r7
    revert hall
    generalize (V3.setRow b7 (posC (V.start 0))) = V4
    rintro ⟨hS, p7, p4, p5, p6⟩
    refine wpAnyH_done (by kernel_rfl) ?_ _
    have HA : Hid (Aw w g b4 b5 b6 b7 (V.start 0) (V.start 0) (V.start 0) (V.start 0) (V.start 0) V4) := Lib.hid ⟨hS.1, p4, p5, p6, p7, hS.2, HG.out, HNe.out⟩
    clear hS p4 p5 p6 p7 HNe HG hu hinfo
    go_upto_region 13 with (first
      | ((with_reducible refine wp_store_cell rfl _ _ _ rfl ?_); refine ⟨b4, 61, _, _, _, rfl, rfl, HA.out.p4, (by decide), rfl, Tryd.size_u8, ?_⟩; intro U1 hP hq; have HA1 := Lib.hid (HA.out.put4 hP hq); clear hP hq)
      | ((with_reducible refine wp_store_cell rfl _ _ _ rfl ?_); refine ⟨b5, 57, _, _, _, rfl, rfl, HA1.out.p5, (by decide), rfl, Tryd.size_u8, ?_⟩; intro U2 hP hq; have HA2 := Lib.hid (HA1.out.put5 hP hq); clear hP hq)
      | ((with_reducible refine wp_store_cell rfl _ _ _ rfl ?_); refine ⟨b6, 8, _, _, _, rfl, rfl, HA2.out.p6, (by decide), rfl, Tryd.size_u8, ?_⟩; intro U3 hP hq; have HA3 := Lib.hid (HA2.out.put6 hP hq); clear hP hq)
      | ((with_reducible refine wp_store_cell rfl _ _ _ rfl ?_); refine ⟨b7, 83, _, _, _, rfl, rfl, HA3.out.p7, (by decide), rfl, Tryd.size_i8V, ?_⟩; intro U4 hP hq; have HA4 : Hid (Aw w g b4 b5 b6 b7 (V.start 0) Y.awA Y.awB Y.awC Y.awD U4) := Lib.hid (HA3.out.put7 hP hq); clear hP hq)
      | ((with_reducible refine wpl_build rfl 31 _ rfl ?_); refine ⟨_, _, rfl, Tryd.awN_cells, ?_⟩)
      | ((with_reducible refine wp_store_box rfl _ _ rfl ?_); refine ⟨U4.heap.size, Y.awN, rfl, rfl, ⟨_, heap_alloc_new _ _, (by kernel_rfl)⟩, ?_⟩; intro U5 hP hq; have HA5 := Lib.hid ((HA4.out.alloc _).off hP HA4.out.is_above); have HE5 := Lib.hid hq; clear hP hq)
      | ((with_reducible refine wp_store_cell rfl _ _ _ rfl ?_); refine ⟨U4.heap.size, 5, _, _, _, rfl, rfl, HE5.out, (by decide), rfl, Tryd.size_u8, ?_⟩; intro U6 hP hq; have HA6 := Lib.hid (HA5.out.off hP HA4.out.is_above); have HE6 := Lib.hid hq; clear hP hq)
      | ((with_reducible refine wp_store_cell rfl _ _ _ rfl ?_); refine ⟨U4.heap.size, 61, _, _, _, rfl, rfl, HE6.out, (by decide), rfl, Tryd.size_u8, ?_⟩; intro U7 hP hq; have HA7 := Lib.hid (HA6.out.off hP HA4.out.is_above); have HE7 := Lib.hid hq; clear hP hq)
      | ((with_reducible refine wp_store_cell rfl _ _ _ rfl ?_); refine ⟨U4.heap.size, 57, _, _, _, rfl, rfl, HE7.out, (by decide), rfl, Tryd.size_u8, ?_⟩; intro U8 hP hq; have HA8 := Lib.hid (HA7.out.off hP HA4.out.is_above); have HE8 : Hid (PosAt U8 U4.heap.size Y.awE) := Lib.hid hq; clear hP hq)
      | ((with_reducible refine wp_load_box_g rfl _ rfl ?_); refine ⟨U4.heap.size, Y.awE, rfl, HE8.out, ?_⟩)
      | ((with_reducible refine wp_store_box rfl _ _ rfl ?_); refine ⟨U8.heap.size, Y.awE, rfl, rfl, ⟨_, heap_alloc_new _ _, (by kernel_rfl)⟩, ?_⟩; intro U9 hP hq; have HA9 := Lib.hid ((HA8.out.alloc _).off hP HA8.out.is_above); have HE9 := Lib.hid (hP.pos (HE8.out.alloc _) (Nat.ne_of_lt HE8.out.lt)); have HF9 := Lib.hid hq; clear hP hq)
      | ((with_reducible refine wp_store_cell rfl _ _ _ rfl ?_); refine ⟨U8.heap.size, 78, _, _, _, rfl, rfl, HF9.out, (by decide), rfl, Tryd.size_u8, ?_⟩; intro U10 hP hq; have HB := Lib.hid (And.intro (HA9.out.off hP HA8.out.is_above) (And.intro (hP.pos HE9.out (Nat.ne_of_lt HE8.out.lt)) (show PosAt U10 U8.heap.size Y.awF from hq))); clear hP hq))
    have hAll := HB.out
    obtain ⟨e, he⟩ : ∃ e, U4.heap.size = e := ⟨_, rfl⟩
    obtain ⟨f, hf⟩ : ∃ f, U8.heap.size = f := ⟨_, rfl⟩
    rw [he, hf] at hAll ⊢
    have HB0 := Lib.hid hAll
    clear hAll HB HA HA1 HA2 HA3 HA4 HA5 HE5 HA6 HE6 HA7 HE7 HA8 HE8 HA9 HE9 HF9 he hf
    go_wp2_with (first
      | (go_at_call 19; (with_reducible refine (CP.out _ (HT.out _ HB0.out.1.below)).mono ?_); rintro e' x0 ⟨rfl, hb⟩; have HB1 := Lib.hid (And.intro (HB0.out.1.next hb) (And.intro (HB0.out.2.1.below hb) (HB0.out.2.2.below hb))); clear hb)
      | (go_at_call 19; (with_reducible refine (CA.out _ (HT.out _ HB1.out.1.below)).mono ?_); rintro e' x1 ⟨rfl, hb⟩; have HB2 := Lib.hid (And.intro (HB1.out.1.next hb) (And.intro (HB1.out.2.1.below hb) (HB1.out.2.2.below hb))); clear hb)
      | (go_at_call 19; (with_reducible refine (CB.out _ (HT.out _ HB2.out.1.below)).mono ?_); rintro e' x2 ⟨rfl, hb⟩; have HB3 := Lib.hid (And.intro (HB2.out.1.next hb) (And.intro (HB2.out.2.1.below hb) (HB2.out.2.2.below hb))); clear hb)
      | (go_at_call 19; (with_reducible refine (CC.out _ (HT.out _ HB3.out.1.below)).mono ?_); rintro e' x3 ⟨rfl, hb⟩; have HB4 := Lib.hid (And.intro (HB3.out.1.next hb) (And.intro (HB3.out.2.1.below hb) (HB3.out.2.2.below hb))); clear hb)
      | (go_at_call 19; (with_reducible refine (CD.out _ (HT.out _ HB4.out.1.below)).mono ?_); rintro e' x4 ⟨rfl, hb⟩; have HB5 := Lib.hid (And.intro (HB4.out.1.next hb) (And.intro (HB4.out.2.1.below hb) (HB4.out.2.2.below hb))); clear hb)
      | (go_at_call 19; (with_reducible refine (CE.out _ (HT.out _ HB5.out.1.below)).mono ?_); rintro e' x5 ⟨rfl, hb⟩; have HB6 := Lib.hid (And.intro (HB5.out.1.next hb) (And.intro (HB5.out.2.1.below hb) (HB5.out.2.2.below hb))); clear hb)
      | (go_at_call 19; (with_reducible refine (CF.out _ (HT.out _ HB6.out.1.below)).mono ?_); rintro e' x6 ⟨rfl, hb⟩; have HB7 := Lib.hid (And.intro (HB6.out.1.next hb) (And.intro (HB6.out.2.1.below hb) (HB6.out.2.2.below hb))); clear hb)
      | ((with_reducible refine wp_load_box_g rfl _ rfl ?_); refine ⟨f, Y.awF, rfl, HB6.out.2.2, ?_⟩)
      | ((with_reducible refine wp_load_box_g rfl _ rfl ?_); refine ⟨e, Y.awE, rfl, HB5.out.2.1, ?_⟩)
      | ((with_reducible refine wp_load_box_g rfl _ rfl ?_); refine ⟨b7, Y.awD, rfl, HB4.out.1.p7, ?_⟩)
      | ((with_reducible refine wp_load_box_g rfl _ rfl ?_); refine ⟨b6, Y.awC, rfl, HB3.out.1.p6, ?_⟩)
      | ((with_reducible refine wp_load_box_g rfl _ rfl ?_); refine ⟨b5, Y.awB, rfl, HB2.out.1.p5, ?_⟩)
      | ((with_reducible refine wp_load_box_g rfl _ rfl ?_); refine ⟨b4, Y.awA, rfl, HB1.out.1.p4, ?_⟩)
      | ((with_reducible refine wp_load_box_g rfl _ rfl ?_); refine ⟨g, (V.start 0), rfl, HB0.out.1.p, ?_⟩))
    go_ret
    exact ⟨rfl, HB7.out.1.below⟩
end Go.Proofs.YtlphjjekamhnlaaDoor
