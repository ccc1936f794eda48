/- Moves: the chapter's examples: awake. -/
import Derived.Test.YtldpejeodhkgdaaDoorAwkA
import Derived.Test.YtldpejeodhkgdaaDoorTakeW
namespace Go.Proofs.YtldpejeodhkgdaaDoor
open Go.RowKit Go.Sort
attribute [local go_sem] Oper.semAt_some

namespace N
def bad : Nat → ByteArray
  | 0 => ⟨#[101, 50, 101, 50]⟩
  | 1 => ⟨#[101, 50]⟩
  | 2 => ⟨#[101, 50, 101, 57]⟩
  | 3 => ⟨#[101, 50, 101, 52, 112]⟩
  | 4 => ⟨#[110, 64, 102, 51]⟩
  | 5 => ⟨#[78, 64, 102, 57]⟩
  | _ => ⟨#[]⟩
def badRow : Array Value := #[.string ⟨#[101, 50, 101, 50]⟩, .string ⟨#[101, 50]⟩, .string ⟨#[101, 50, 101, 57]⟩, .string ⟨#[101, 50, 101, 52, 112]⟩, .string ⟨#[110, 64, 102, 51]⟩, .string ⟨#[78, 64, 102, 57]⟩]
theorem badRow_at : ∀ n, n < 6 → badRow[n]? = some (.string (bad n)) := by
  intro n hn
  rcases (show n = 0 ∨ n = 1 ∨ n = 2 ∨ n = 3 ∨ n = 4 ∨ n = 5 by omega) with rfl | rfl | rfl | rfl | rfl | rfl <;> rfl
end N
theorem load_str (p : Addr) (v : Value) (w : World) (h : w.cell? p = some v) : (loadVar 9 p).run Tryd.prog w = .ok v w := by
  simp [go_sem, h]
theorem exec_indexS {ev : Operand → Value} {o : Oper} (x y : Operand) {g n cap k : Nat} (ho : o.op = .indexAddr 57 x y) (hx : ev x = .slice (some ⟨g, 0, none⟩) n cap) (hy : ev y = .int .i64 (k : Int)) (w : World) (hk : k < n) : (execOp ev o).run Tryd.prog w = .ok (.value (.pointer (some ⟨g, k, none⟩))) w := by
  unfold execOp
  simp only [ho, hx, hy]
  have e1 : (0 : Int) ≤ (k : Int) := by omega
  have e2 : (k : Int) < (n : Int) := by omega
  simp [go_sem, e1, e2]
theorem zero31_size11 : Tryd.zeroCells31.size = 88 := by kernel_rfl

theorem awkTA1 : ∀ W, Calls Tryd.prog 9 #[.agg (posC N.sA), .agg #[.int .i8 12, .int .i8 28, .int .u8 0, .int .u8 0, .bool false]] W fun e w' => e = .returned (.string ⟨#[101, 50, 101, 52]⟩) ∧ Below W.heap.size W w' := by
  obtain ⟨S, hE, hC⟩ := mvText_fix N.sA 12 28 0 0 false N.sA_ok (by unfold MovOk; decide)
  obtain rfl : S = ⟨#[101, 50, 101, 52]⟩ := N.end_of hE N.sA1
  exact hC

theorem awkTA2 : ∀ W, Calls Tryd.prog 9 #[.agg (posC N.sA), .agg #[.int .i8 52, .int .i8 60, .int .u8 5, .int .u8 0, .bool false]] W fun e w' => e = .returned (.string ⟨#[101, 55, 101, 56, 113]⟩) ∧ Below W.heap.size W w' := by
  obtain ⟨S, hE, hC⟩ := mvText_fix N.sA 52 60 5 0 false N.sA_ok (by unfold MovOk; decide)
  obtain rfl : S = ⟨#[101, 55, 101, 56, 113]⟩ := N.end_of hE N.sA2
  exact hC

theorem awkTA3 : ∀ W, Calls Tryd.prog 9 #[.agg (posC N.sA), .agg #[.int .i8 4, .int .i8 7, .int .u8 0, .int .u8 0, .bool true]] W fun e w' => e = .returned (.string ⟨#[101, 49, 103, 49]⟩) ∧ Below W.heap.size W w' := by
  obtain ⟨S, hE, hC⟩ := mvText_fix N.sA 4 7 0 0 true N.sA_ok (by unfold MovOk; decide)
  obtain rfl : S = ⟨#[101, 49, 103, 49]⟩ := N.end_of hE N.sA3
  exact hC

theorem awkTA4 : ∀ W, Calls Tryd.prog 9 #[.agg (posC N.sA), .agg #[.int .i8 4, .int .i8 6, .int .u8 0, .int .u8 0, .bool false]] W fun e w' => e = .returned (.string ⟨#[]⟩) ∧ Below W.heap.size W w' := by
  obtain ⟨S, hE, hC⟩ := mvText_fix N.sA 4 6 0 0 false N.sA_ok (by unfold MovOk; decide)
  obtain rfl : S = ⟨#[]⟩ := N.end_none hE N.sA4
  exact hC

theorem awkTB1 : ∀ W, Calls Tryd.prog 9 #[.agg (posC N.sB), .agg #[.int .i8 4, .int .i8 7, .int .u8 0, .int .u8 0, .bool true]] W fun e w' => e = .returned (.string ⟨#[101, 49, 104, 49]⟩) ∧ Below W.heap.size W w' := by
  obtain ⟨S, hE, hC⟩ := mvText_fix N.sB 4 7 0 0 true N.sB_ok (by unfold MovOk; decide)
  obtain rfl : S = ⟨#[101, 49, 104, 49]⟩ := N.end_of hE N.sB1
  exact hC

theorem awkTB2 : ∀ W, Calls Tryd.prog 9 #[.agg (posC N.sB), .agg #[.int .i8 4, .int .i8 7, .int .u8 0, .int .u8 0, .bool false]] W fun e w' => e = .returned (.string ⟨#[]⟩) ∧ Below W.heap.size W w' := by
  obtain ⟨S, hE, hC⟩ := mvText_fix N.sB 4 7 0 0 false N.sB_ok (by unfold MovOk; decide)
  obtain rfl : S = ⟨#[]⟩ := N.end_none hE N.sB2
  exact hC

theorem awkTB3 : ∀ W, Calls Tryd.prog 9 #[.agg (posC N.sB), .agg #[.int .i8 4, .int .i8 6, .int .u8 0, .int .u8 0, .bool false]] W fun e w' => e = .returned (.string ⟨#[101, 49, 103, 49]⟩) ∧ Below W.heap.size W w' := by
  obtain ⟨S, hE, hC⟩ := mvText_fix N.sB 4 6 0 0 false N.sB_ok (by unfold MovOk; decide)
  obtain rfl : S = ⟨#[101, 49, 103, 49]⟩ := N.end_of hE N.sB3
  exact hC

theorem awkTC1 : ∀ W, Calls Tryd.prog 9 #[.agg (posC N.sC), .agg #[.int .i8 21, .int .i8 21, .int .u8 0, .int .u8 2, .bool false]] W fun e w' => e = .returned (.string ⟨#[78, 64, 102, 51]⟩) ∧ Below W.heap.size W w' := by
  obtain ⟨S, hE, hC⟩ := mvText_fix N.sC 21 21 0 2 false N.sC_ok (by unfold MovOk; decide)
  obtain rfl : S = ⟨#[78, 64, 102, 51]⟩ := N.end_of hE N.sC1
  exact hC

theorem awkTC2 : ∀ W, Calls Tryd.prog 9 #[.agg (posC N.sC), .agg #[.int .i8 21, .int .i8 21, .int .u8 0, .int .u8 6, .bool false]] W fun e w' => e = .returned (.string ⟨#[]⟩) ∧ Below W.heap.size W w' := by
  obtain ⟨S, hE, hC⟩ := mvText_fix N.sC 21 21 0 6 false N.sC_ok (by unfold MovOk; decide)
  obtain rfl : S = ⟨#[]⟩ := N.end_none hE N.sC2
  exact hC

theorem awkP0 : ∀ W, Calls Tryd.prog 12 #[.agg (posC N.sA), .string ⟨#[101, 49, 103, 49]⟩] W fun e w' => e = .returned (.tuple #[.agg #[.int .i8 4, .int .i8 7, .int .u8 0, .int .u8 0, .bool true], .int .i64 0]) ∧ Below W.heap.size W w' := by
  obtain ⟨f, g, x, y, z, e, hE, hC⟩ := mvParse_fix N.sA ⟨#[101, 49, 103, 49]⟩ N.sA_ok (Nat.le_of_ble_eq_true rfl)
  obtain ⟨rfl, rfl, rfl, rfl, rfl, rfl⟩ := N.parse_ok hE N.sA3
  exact hC

theorem awkP1 : ∀ W, Calls Tryd.prog 12 #[.agg (posC N.sA), .string ⟨#[101, 49, 99, 49]⟩] W fun e w' => e = .returned (.tuple #[.agg #[.int .i8 4, .int .i8 0, .int .u8 0, .int .u8 0, .bool true], .int .i64 0]) ∧ Below W.heap.size W w' := by
  obtain ⟨f, g, x, y, z, e, hE, hC⟩ := mvParse_fix N.sA ⟨#[101, 49, 99, 49]⟩ N.sA_ok (Nat.le_of_ble_eq_true rfl)
  obtain ⟨rfl, rfl, rfl, rfl, rfl, rfl⟩ := N.parse_ok hE N.sA5
  exact hC

theorem awkP2 : ∀ W, Calls Tryd.prog 12 #[.agg (posC N.sA), .string ⟨#[101, 49, 102, 49]⟩] W fun e w' => e = .returned (.tuple #[.agg #[.int .i8 4, .int .i8 5, .int .u8 0, .int .u8 0, .bool false], .int .i64 0]) ∧ Below W.heap.size W w' := by
  obtain ⟨f, g, x, y, z, e, hE, hC⟩ := mvParse_fix N.sA ⟨#[101, 49, 102, 49]⟩ N.sA_ok (Nat.le_of_ble_eq_true rfl)
  obtain ⟨rfl, rfl, rfl, rfl, rfl, rfl⟩ := N.parse_ok hE N.sA6
  exact hC

theorem awkX0 : ∀ W, Calls Tryd.prog 12 #[.agg (posC N.sA), .string ⟨#[101, 50, 101, 50]⟩] W fun e w' => e = .returned (.tuple #[.agg #[.int .i8 0, .int .i8 0, .int .u8 0, .int .u8 0, .bool false], .int .i64 5]) ∧ Below W.heap.size W w' := by
  obtain ⟨f, g, x, y, z, e, hE, hC⟩ := mvParse_fix N.sA ⟨#[101, 50, 101, 50]⟩ N.sA_ok (Nat.le_of_ble_eq_true rfl)
  obtain ⟨rfl, rfl, rfl, rfl, rfl, rfl⟩ := N.parse_bad N.sA_known hE (N.no_e2e2 _)
  exact hC

theorem awkX1 : ∀ W, Calls Tryd.prog 12 #[.agg (posC N.sA), .string ⟨#[101, 50]⟩] W fun e w' => e = .returned (.tuple #[.agg #[.int .i8 0, .int .i8 0, .int .u8 0, .int .u8 0, .bool false], .int .i64 5]) ∧ Below W.heap.size W w' := by
  obtain ⟨f, g, x, y, z, e, hE, hC⟩ := mvParse_fix N.sA ⟨#[101, 50]⟩ N.sA_ok (Nat.le_of_ble_eq_true rfl)
  obtain ⟨rfl, rfl, rfl, rfl, rfl, rfl⟩ := N.parse_bad N.sA_known hE (N.no_e2 _)
  exact hC

theorem awkX2 : ∀ W, Calls Tryd.prog 12 #[.agg (posC N.sA), .string ⟨#[101, 50, 101, 57]⟩] W fun e w' => e = .returned (.tuple #[.agg #[.int .i8 0, .int .i8 0, .int .u8 0, .int .u8 0, .bool false], .int .i64 5]) ∧ Below W.heap.size W w' := by
  obtain ⟨f, g, x, y, z, e, hE, hC⟩ := mvParse_fix N.sA ⟨#[101, 50, 101, 57]⟩ N.sA_ok (Nat.le_of_ble_eq_true rfl)
  obtain ⟨rfl, rfl, rfl, rfl, rfl, rfl⟩ := N.parse_bad N.sA_known hE (N.no_e2e9 _)
  exact hC

theorem awkX3 : ∀ W, Calls Tryd.prog 12 #[.agg (posC N.sA), .string ⟨#[101, 50, 101, 52, 112]⟩] W fun e w' => e = .returned (.tuple #[.agg #[.int .i8 0, .int .i8 0, .int .u8 0, .int .u8 0, .bool false], .int .i64 5]) ∧ Below W.heap.size W w' := by
  obtain ⟨f, g, x, y, z, e, hE, hC⟩ := mvParse_fix N.sA ⟨#[101, 50, 101, 52, 112]⟩ N.sA_ok (Nat.le_of_ble_eq_true rfl)
  obtain ⟨rfl, rfl, rfl, rfl, rfl, rfl⟩ := N.parse_bad N.sA_known hE (N.no_e2e4p _)
  exact hC

theorem awkX4 : ∀ W, Calls Tryd.prog 12 #[.agg (posC N.sA), .string ⟨#[110, 64, 102, 51]⟩] W fun e w' => e = .returned (.tuple #[.agg #[.int .i8 0, .int .i8 0, .int .u8 0, .int .u8 0, .bool false], .int .i64 5]) ∧ Below W.heap.size W w' := by
  obtain ⟨f, g, x, y, z, e, hE, hC⟩ := mvParse_fix N.sA ⟨#[110, 64, 102, 51]⟩ N.sA_ok (Nat.le_of_ble_eq_true rfl)
  obtain ⟨rfl, rfl, rfl, rfl, rfl, rfl⟩ := N.parse_bad N.sA_known hE (N.no_nf3 _)
  exact hC

theorem awkX5 : ∀ W, Calls Tryd.prog 12 #[.agg (posC N.sA), .string ⟨#[78, 64, 102, 57]⟩] W fun e w' => e = .returned (.tuple #[.agg #[.int .i8 0, .int .i8 0, .int .u8 0, .int .u8 0, .bool false], .int .i64 5]) ∧ Below W.heap.size W w' := by
  obtain ⟨f, g, x, y, z, e, hE, hC⟩ := mvParse_fix N.sA ⟨#[78, 64, 102, 57]⟩ N.sA_ok (Nat.le_of_ble_eq_true rfl)
  obtain ⟨rfl, rfl, rfl, rfl, rfl, rfl⟩ := N.parse_bad N.sA_known hE (N.no_Nf9 _)
  exact hC

/-- Three positions and a move in their boxes. -/
structure AwkAt (w : World) (p q r : Nat → Int) (a b d e : Nat) (W : World) : Prop where
  pa : PosAt W a p
  pb : PosAt W b q
  pd : PosAt W d r
  pm : RowAt W e 33 #[.int .i8 4, .int .i8 7, .int .u8 0, .int .u8 0, .bool true]
  below : Below w.heap.size w W
theorem AwkAt.next {w W W' : World} {p q r : Nat → Int} {a b d e : Nat} (h : AwkAt w p q r a b d e W) (hb : Below W.heap.size W W') : AwkAt w p q r a b d e W' :=
  ⟨h.pa.below hb, h.pb.below hb, h.pd.below hb, h.pm.below hb, below_next h.below hb⟩
theorem AwkAt.other {w W W' : World} {p q r : Nat → Int} {a b d e g : Nat} {o : Obj} (h : AwkAt w p q r a b d e W) (hP : Put g (W.alloc o) W') (hg : g = W.heap.size) : AwkAt w p q r a b d e W' := by
  subst hg
  have h1 := h.next ((Below.refl _ _).alloc (Nat.le_refl _) o)
  exact ⟨hP.pos h1.pa (Nat.ne_of_lt h.pa.lt), hP.pos h1.pb (Nat.ne_of_lt h.pb.lt), hP.pos h1.pd (Nat.ne_of_lt h.pd.lt), hP.row h1.pm (Nat.ne_of_lt h.pm.lt), hP.below h1.below h.below.size⟩

theorem awk_step {w W u V : World} {o : Obj} (hB : Below w.heap.size w W) (hU : Below W.heap.size W u) (hP : Put u.heap.size (u.alloc o) V) :
    Below w.heap.size w V ∧ (∀ g c, PosAt W g c → PosAt V g c) ∧ (∀ g T cs, RowAt W g T cs → RowAt V g T cs) := by
  have hb := below_next hB hU
  exact ⟨hP.below (hb.alloc hb.size _) hb.size, fun g c h => hP.pos ((h.below hU).alloc _) (Nat.ne_of_lt (h.below hU).lt), fun g T cs h => hP.row ((h.below hU).alloc _) (Nat.ne_of_lt (h.below hU).lt)⟩

set_option maxRecDepth 100000 in
set_option maxHeartbeats 8000000 in
theorem awake11_any (w : World) : Calls Tryd.prog 11 #[] w fun e w' => e = .returned (.bool true) ∧ Below w.heap.size w w' := by
  have HS0 : Hid (∀ W, Calls Tryd.prog 27 #[.int .u8 0] W fun e w' => e = .returned (.tuple #[.agg (posC N.sA), .bool true]) ∧ Below W.heap.size W w') := Lib.hid (fun W => start_any 0 W (by decide))
  have HS1 : Hid (∀ W, Calls Tryd.prog 27 #[.int .u8 1] W fun e w' => e = .returned (.tuple #[.agg (posC N.sB), .bool true]) ∧ Below W.heap.size W w') := Lib.hid (fun W => start_any 1 W (by decide))
  have HS2 : Hid (∀ W, Calls Tryd.prog 27 #[.int .u8 2] W fun e w' => e = .returned (.tuple #[.agg (posC N.sC), .bool true]) ∧ Below W.heap.size W w') := Lib.hid (fun W => start_any 2 W (by decide))
  have HTA1 := Lib.hid awkTA1
  have HTA2 := Lib.hid awkTA2
  have HTA3 := Lib.hid awkTA3
  have HTA4 := Lib.hid awkTA4
  have HTB1 := Lib.hid awkTB1
  have HTB2 := Lib.hid awkTB2
  have HTB3 := Lib.hid awkTB3
  have HTC1 := Lib.hid awkTC1
  have HTC2 := Lib.hid awkTC2
  have HQ0 := Lib.hid awkP0
  have HQ1 := Lib.hid awkP1
  have HQ2 := Lib.hid awkP2
  have HBad : Hid (∀ n, n < 6 → ∀ W, Calls Tryd.prog 12 #[.agg (posC N.sA), .string (N.bad n)] W fun e w' => e = .returned (.tuple #[.agg #[.int .i8 0, .int .i8 0, .int .u8 0, .int .u8 0, .bool false], .int .i64 5]) ∧ Below W.heap.size W w') := Lib.hid (fun n hn => by
    rcases (show n = 0 ∨ n = 1 ∨ n = 2 ∨ n = 3 ∨ n = 4 ∨ n = 5 by omega) with rfl | rfl | rfl | rfl | rfl | rfl
    · exact awkX0
    · exact awkX1
    · exact awkX2
    · exact awkX3
    · exact awkX4
    · exact awkX5)
  generalize N.sA = p at *
  generalize N.sB = q at *
  generalize N.sC = r at *
  go_enter Tryd.func11, Tryd.ntmps11
  go_upto_region 2 with (first
    | (go_at_call 27; (with_reducible refine (HS0.out _).mono ?_); rintro e u0 ⟨rfl, hb⟩; have HU0 := Lib.hid hb; clear hb)
    | ((with_reducible refine wp_store_box rfl _ _ rfl ?_); refine ⟨_, p, rfl, rfl, ⟨_, heap_alloc_new _ _, zero31_size11⟩, ?_⟩; intro W0 hP hq; have HP0 := Lib.hid (And.intro hP hq); clear hP hq))
  go_upto_region 3 with (first
    | (go_at_call 27; (with_reducible refine (HS1.out _).mono ?_); rintro e u1 ⟨rfl, hb⟩; have HU1 := Lib.hid hb; clear hb)
    | ((with_reducible refine wp_store_box rfl _ _ rfl ?_); refine ⟨_, q, rfl, rfl, ⟨_, heap_alloc_new _ _, zero31_size11⟩, ?_⟩; intro W1 hP hq; have HP1 := Lib.hid (And.intro hP hq); clear hP hq))
  go_upto_region 4 with (first
    | (go_at_call 27; (with_reducible refine (HS2.out _).mono ?_); rintro e u2 ⟨rfl, hb⟩; have HU2 := Lib.hid hb; clear hb)
    | ((with_reducible refine wp_store_box rfl _ _ rfl ?_); refine ⟨_, r, rfl, rfl, ⟨_, heap_alloc_new _ _, zero31_size11⟩, ?_⟩; intro W2 hP hq; have HP2 := Lib.hid (And.intro hP hq); clear hP hq))
  obtain ⟨b0, k0, _⟩ := awk_step (Below.refl w.heap.size w) HU0.out HP0.out.1
  obtain ⟨b1, k1, _⟩ := awk_step b0 HU1.out HP1.out.1
  obtain ⟨b2, k2, _⟩ := awk_step b1 HU2.out HP2.out.1
  have HA := Lib.hid (And.intro (k2 _ _ (k1 _ _ HP0.out.2)) (And.intro (k2 _ _ HP1.out.2) (And.intro HP2.out.2 b2)))
  clear b0 k0 b1 k1 b2 k2 HU0 HU1 HU2 HP0 HP1 HP2 HS0 HS1 HS2
  generalize u0.heap.size = a at HA ⊢
  generalize u1.heap.size = b at HA ⊢
  generalize u2.heap.size = d at HA ⊢
  go_upto_region 7 with ((with_reducible refine wp_store_row' rfl 33 _ _ rfl ?_); refine ⟨W2.heap.size, 33, #[.int .i8 4, .int .i8 7, .int .u8 0, .int .u8 0, .bool true], rfl, rfl, ⟨_, heap_alloc_new _ _, (by kernel_rfl)⟩, Tryd.info_mvB _ _ _ _ _, Tryd.one_mvB _ _ _ _ _, ?_⟩; intro W3 hP hq; have HM := Lib.hid (And.intro hP hq); clear hP hq)
  obtain ⟨b3, k3, _⟩ := awk_step HA.out.2.2.2 (Below.refl _ _) HM.out.1
  have H := Lib.hid (show AwkAt w p q r a b d W2.heap.size W3 from ⟨k3 _ _ HA.out.1, k3 _ _ HA.out.2.1, k3 _ _ HA.out.2.2.1, HM.out.2, b3⟩)
  clear b3 k3 HA HM
  generalize W2.heap.size = e at H ⊢
  go_upto_region 9 with (first
  | ((with_reducible refine wp_load_box_g rfl _ rfl ?_); refine ⟨a, p, rfl, H.out.pa, ?_⟩)
  | ((with_reducible refine wp_load_box_g rfl _ rfl ?_); refine ⟨b, q, rfl, H.out.pb, ?_⟩)
  | ((with_reducible refine wp_load_box_g rfl _ rfl ?_); refine ⟨d, r, rfl, H.out.pd, ?_⟩)
  | ((with_reducible refine mv_load_rowG rfl 33 _ rfl Tryd.underlying33 rfl ?_); refine ⟨e, _, _, rfl, H.out.pm, Tryd.info_mvB _ _ _ _ _, ?_⟩)
  | (go_at_call 9; (with_reducible refine (HTA1.out _).mono ?_); rintro e' w' ⟨rfl, hb⟩; replace H := Lib.hid (H.out.next hb); clear hb)
  | (go_at_call 9; (with_reducible refine (HTA2.out _).mono ?_); rintro e' w' ⟨rfl, hb⟩; replace H := Lib.hid (H.out.next hb); clear hb)
  | (go_at_call 9; (with_reducible refine (HTA3.out _).mono ?_); rintro e' w' ⟨rfl, hb⟩; replace H := Lib.hid (H.out.next hb); clear hb)
  | (go_at_call 9; (with_reducible refine (HTA4.out _).mono ?_); rintro e' w' ⟨rfl, hb⟩; replace H := Lib.hid (H.out.next hb); clear hb))
  go_upto_region 11 with (first
  | ((with_reducible refine wp_load_box_g rfl _ rfl ?_); refine ⟨a, p, rfl, H.out.pa, ?_⟩)
  | ((with_reducible refine wp_load_box_g rfl _ rfl ?_); refine ⟨b, q, rfl, H.out.pb, ?_⟩)
  | ((with_reducible refine wp_load_box_g rfl _ rfl ?_); refine ⟨d, r, rfl, H.out.pd, ?_⟩)
  | ((with_reducible refine mv_load_rowG rfl 33 _ rfl Tryd.underlying33 rfl ?_); refine ⟨e, _, _, rfl, H.out.pm, Tryd.info_mvB _ _ _ _ _, ?_⟩)
  | (go_at_call 9; (with_reducible refine (HTB1.out _).mono ?_); rintro e' w' ⟨rfl, hb⟩; replace H := Lib.hid (H.out.next hb); clear hb)
  | (go_at_call 9; (with_reducible refine (HTB2.out _).mono ?_); rintro e' w' ⟨rfl, hb⟩; replace H := Lib.hid (H.out.next hb); clear hb)
  | (go_at_call 9; (with_reducible refine (HTB3.out _).mono ?_); rintro e' w' ⟨rfl, hb⟩; replace H := Lib.hid (H.out.next hb); clear hb)
  | (go_at_call 9; (with_reducible refine (HTC1.out _).mono ?_); rintro e' w' ⟨rfl, hb⟩; replace H := Lib.hid (H.out.next hb); clear hb)
  | (go_at_call 9; (with_reducible refine (HTC2.out _).mono ?_); rintro e' w' ⟨rfl, hb⟩; replace H := Lib.hid (H.out.next hb); clear hb))
  go_upto_region 16 with (first
  | ((with_reducible refine wp_load_box_g rfl _ rfl ?_); refine ⟨a, p, rfl, H.out.pa, ?_⟩)
  | ((with_reducible refine wp_load_box_g rfl _ rfl ?_); refine ⟨b, q, rfl, H.out.pb, ?_⟩)
  | ((with_reducible refine wp_load_box_g rfl _ rfl ?_); refine ⟨d, r, rfl, H.out.pd, ?_⟩)
  | ((with_reducible refine mv_load_rowG rfl 33 _ rfl Tryd.underlying33 rfl ?_); refine ⟨e, _, _, rfl, H.out.pm, Tryd.info_mvB _ _ _ _ _, ?_⟩)
  | ((with_reducible refine mv_load_rowG rfl 33 _ rfl Tryd.underlying33 rfl ?_); refine ⟨v0.heap.size, _, _, rfl, HR0.out, Tryd.info_mvB _ _ _ _ _, ?_⟩)
  | ((with_reducible refine mv_load_rowG rfl 33 _ rfl Tryd.underlying33 rfl ?_); refine ⟨v1.heap.size, _, _, rfl, HR1.out, Tryd.info_mvB _ _ _ _ _, ?_⟩)
  | ((with_reducible refine mv_load_rowG rfl 33 _ rfl Tryd.underlying33 rfl ?_); refine ⟨v2.heap.size, _, _, rfl, HR2.out, Tryd.info_mvB _ _ _ _ _, ?_⟩)
  | (go_at_call 12; (with_reducible refine (HQ0.out _).mono ?_); rintro e' v0 ⟨rfl, hb⟩; replace H := Lib.hid (H.out.next hb); clear hb)
  | ((with_reducible refine wp_store_row' rfl 33 _ _ rfl ?_); refine ⟨v0.heap.size, 33, #[.int .i8 4, .int .i8 7, .int .u8 0, .int .u8 0, .bool true], rfl, rfl, ⟨_, heap_alloc_new _ _, (by kernel_rfl)⟩, Tryd.info_mvB _ _ _ _ _, Tryd.one_mvB _ _ _ _ _, ?_⟩; intro V0 hP hq; replace H := Lib.hid (H.out.other hP rfl); have HR0 := Lib.hid hq; clear hP hq)
  | (go_at_call 12; (with_reducible refine (HQ1.out _).mono ?_); rintro e' v1 ⟨rfl, hb⟩; replace H := Lib.hid (H.out.next hb); have HR0 := Lib.hid (HR0.out.below hb); clear hb)
  | ((with_reducible refine wp_store_row' rfl 33 _ _ rfl ?_); refine ⟨v1.heap.size, 33, #[.int .i8 4, .int .i8 0, .int .u8 0, .int .u8 0, .bool true], rfl, rfl, ⟨_, heap_alloc_new _ _, (by kernel_rfl)⟩, Tryd.info_mvB _ _ _ _ _, Tryd.one_mvB _ _ _ _ _, ?_⟩; intro V1 hP hq; replace H := Lib.hid (H.out.other hP rfl); have HR0 := Lib.hid (hP.row (HR0.out.alloc _) (Nat.ne_of_lt HR0.out.lt)); have HR1 := Lib.hid hq; clear hP hq)
  | (go_at_call 12; (with_reducible refine (HQ2.out _).mono ?_); rintro e' v2 ⟨rfl, hb⟩; replace H := Lib.hid (H.out.next hb); have HR0 := Lib.hid (HR0.out.below hb); have HR1 := Lib.hid (HR1.out.below hb); clear hb)
  | ((with_reducible refine wp_store_row' rfl 33 _ _ rfl ?_); refine ⟨v2.heap.size, 33, #[.int .i8 4, .int .i8 5, .int .u8 0, .int .u8 0, .bool false], rfl, rfl, ⟨_, heap_alloc_new _ _, (by kernel_rfl)⟩, Tryd.info_mvB _ _ _ _ _, Tryd.one_mvB _ _ _ _ _, ?_⟩; intro V2 hP hq; replace H := Lib.hid (H.out.other hP rfl); have HR0 := Lib.hid (hP.row (HR0.out.alloc _) (Nat.ne_of_lt HR0.out.lt)); have HR1 := Lib.hid (hP.row (HR1.out.alloc _) (Nat.ne_of_lt HR1.out.lt)); have HR2 := Lib.hid hq; clear hP hq))
  go_wp2
  have hL := RowAt.new V2 N.badRow 9
  have h4 := H.out.next ((Below.refl _ _).alloc (Nat.le_refl _) (.cells N.badRow 9))
  change Code.wp _ _ _ _ (V2.alloc (.cells N.badRow 9))
  generalize V2.alloc (.cells N.badRow 9) = X at hL h4 ⊢
  generalize V2.heap.size = l at hL ⊢
  have HX := Lib.hid (And.intro h4 hL)
  have hinfo : (Tryd.prog.info? 31).map (·.size) = some (posL p).length := by rw [Tryd.infoPos]; simp [posL]
  clear h4 hL H
  go_loopw [15] (fun i wr => ∃ n : Nat, n ≤ 6 ∧ i = .int .i64 (n : Int) ∧ AwkAt w p q r a b d e wr ∧ RowAt wr l 9 N.badRow) (fun i _ => 6 - (intOf i).toNat)
  case atStart => exact ⟨0, Nat.zero_le _, rfl, HX.out.1, HX.out.2⟩
  case round =>
    obtain ⟨n, hn, rfl, hA, hL⟩ := hrel
    have HR := Lib.hid (And.intro hA hL)
    clear hA hL
    by_cases hlt : n < 6
    · have HB := Lib.hid (HBad.out n hlt)
      have hB := N.badRow_at n hlt
      generalize N.bad n = B at HB hB
      go_upto_region 20 with fail
      refine wp_region_held (S := fun w' => AwkAt w p q r a b d e w' ∧ RowAt w' l 9 N.badRow) (by kernel_rfl) ?_
      have hSd : AwkAt w p q r a b d e wr.drew ∧ RowAt wr.drew l 9 N.badRow := ⟨⟨⟨HR.out.1.pa.heap⟩, ⟨HR.out.1.pb.heap⟩, ⟨HR.out.1.pd.heap⟩, ⟨HR.out.1.pm.heap⟩, M.below_drew HR.out.1.below 1⟩, ⟨HR.out.2.heap⟩⟩
      refine takeD 0 (some 139) (.agg (posC p)) (by kernel_rfl) (by kernel_rfl) (by kernel_rfl) (by kernel_rfl) (by kernel_rfl) (fun _ _ _ h => h) (yieldsIf_load_mid (by kernel_rfl) 31 (.tmp 1) (by kernel_rfl) (a) 0 (by kernel_rfl) (posL p) _ (fun _ h => pos_range9 h.1.pa) Tryd.underlying31 rfl hinfo) hSd ?_
      simp only [Act.put, List.setIfInBounds_toArray, List.set_cons_succ, List.set_cons_zero]
      refine takeD 1 (some 140) (.slice (some ⟨l, 0, none⟩) 6 6) (by kernel_rfl) (by kernel_rfl) (by kernel_rfl) (by kernel_rfl) (by kernel_rfl) (fun _ _ _ h => h) (yi_pure (v0 := .slice (some ⟨l, 0, none⟩) 6 6) (by kernel_rfl) (fun _ => by kernel_rfl) rfl) hSd ?_
      simp only [Act.put, List.setIfInBounds_toArray, List.set_cons_succ, List.set_cons_zero]
      refine takeD 2 (some 141) (.int .i64 (n : Int)) (by kernel_rfl) (by kernel_rfl) (by kernel_rfl) (by kernel_rfl) (by kernel_rfl) (fun _ _ _ h => h) (yi_pure (v0 := .int .i64 (n : Int)) (by kernel_rfl) (fun _ => by kernel_rfl) rfl) hSd ?_
      simp only [Act.put, List.setIfInBounds_toArray, List.set_cons_succ, List.set_cons_zero]
      refine takeD 3 (some 142) (.pointer (some ⟨l, n, none⟩)) (by kernel_rfl) (by kernel_rfl) (by kernel_rfl) (by kernel_rfl) (by kernel_rfl) (fun _ _ _ h => h) (yi_pure (v0 := .pointer (some ⟨l, n, none⟩)) (by kernel_rfl) (fun w9 => exec_indexS (.tmp 140) (.tmp 141) (n := 6) (cap := 6) (k := n) (g := l) (by kernel_rfl) (by kernel_rfl) (by kernel_rfl) w9 hlt) rfl) hSd ?_
      simp only [Act.put, List.setIfInBounds_toArray, List.set_cons_succ, List.set_cons_zero]
      refine takeD 4 (some 143) (.string B) (by kernel_rfl) (by kernel_rfl) (by kernel_rfl) (by kernel_rfl) (by kernel_rfl) (fun _ _ _ h => h) (yi_load (by kernel_rfl) 9 (.tmp 142) (by kernel_rfl) ⟨l, n, none⟩ (by kernel_rfl) (fun w9 => load_str _ _ w9) (fun w9 h9 => (h9.2.cell n).trans hB)) hSd ?_
      simp only [Act.put, List.setIfInBounds_toArray, List.set_cons_succ, List.set_cons_zero]
      refine wpAnyH_all (rs := [5, 9]) (by kernel_rfl) (by simp) (fun i1 hi1 => ?_)
      rcases (show i1 = 5 ∨ i1 = 9 by simpa using hi1) with rfl | rfl
      · refine wpOp_callD 5 (some 144) 12 (#[.agg (posC p), .string B]) (.tuple #[.agg #[.int .i8 0, .int .i8 0, .int .u8 0, .int .u8 0, .bool false], .int .i64 5]) (fun w9 => Below wr.drew.heap.size wr.drew w9) (by kernel_rfl) (by kernel_rfl) (by kernel_rfl) (by kernel_rfl) (HB.out _) (fun u5 hRu5 => ?_)
        simp only [Act.put, List.setIfInBounds_toArray, List.set_cons_succ, List.set_cons_zero]
        have hS5 : AwkAt w p q r a b d e u5 ∧ RowAt u5 l 9 N.badRow := ⟨hSd.1.next hRu5, hSd.2.below hRu5⟩
        refine ⟨hS5, ?_⟩
        refine takeD 6 (some 138) (.tuple #[.agg #[.int .i8 0, .int .i8 0, .int .u8 0, .int .u8 0, .bool false], .int .i64 5]) (by kernel_rfl) (by kernel_rfl) (by kernel_rfl) (by kernel_rfl) (by kernel_rfl) (fun _ _ _ h => h) (yi_pure (v0 := .tuple #[.agg #[.int .i8 0, .int .i8 0, .int .u8 0, .int .u8 0, .bool false], .int .i64 5]) (by kernel_rfl) (fun _ => by kernel_rfl) rfl) hS5 ?_
        simp only [Act.put, List.setIfInBounds_toArray, List.set_cons_succ, List.set_cons_zero]
        refine takeD 7 (some 145) (.agg #[.int .i8 0, .int .i8 0, .int .u8 0, .int .u8 0, .bool false]) (by kernel_rfl) (by kernel_rfl) (by kernel_rfl) (by kernel_rfl) (by kernel_rfl) (fun _ _ _ h => h) (yi_pure (v0 := .agg #[.int .i8 0, .int .i8 0, .int .u8 0, .int .u8 0, .bool false]) (by kernel_rfl) (fun _ => by kernel_rfl) rfl) hS5 ?_
        simp only [Act.put, List.setIfInBounds_toArray, List.set_cons_succ, List.set_cons_zero]
        refine takeD 8 (some 146) (.int .i64 5) (by kernel_rfl) (by kernel_rfl) (by kernel_rfl) (by kernel_rfl) (by kernel_rfl) (fun _ _ _ h => h) (yi_pure (v0 := .int .i64 5) (by kernel_rfl) (fun _ => by kernel_rfl) rfl) hS5 ?_
        simp only [Act.put, List.setIfInBounds_toArray, List.set_cons_succ, List.set_cons_zero]
        refine wpAnyH_all (rs := [9]) (by kernel_rfl) (by simp) (fun i2 hi2 => ?_)
        obtain rfl : i2 = 9 := by simpa using hi2
        clear hi2
        refine wpOp_valD 9 (some 16) (.pointer (some ⟨u5.heap.size, 0, none⟩)) (u5.alloc (.cells #[.int .i8 0, .int .i8 0, .int .u8 0, .int .u8 0, .bool false] 33)) (by kernel_rfl) (by kernel_rfl) (by kernel_rfl) (by kernel_rfl) ?_
        simp only [Act.put, List.setIfInBounds_toArray, List.set_cons_succ, List.set_cons_zero]
        have hbx := RowAt.new u5 #[.int .i8 0, .int .i8 0, .int .u8 0, .int .u8 0, .bool false] 33
        have hS9 : AwkAt w p q r a b d e (u5.alloc (.cells #[.int .i8 0, .int .i8 0, .int .u8 0, .int .u8 0, .bool false] 33)) ∧ RowAt (u5.alloc (.cells #[.int .i8 0, .int .i8 0, .int .u8 0, .int .u8 0, .bool false] 33)) l 9 N.badRow := ⟨hS5.1.next ((Below.refl _ _).alloc (Nat.le_refl _) _), hS5.2.alloc _⟩
        obtain ⟨Y, hY⟩ : ∃ Y, u5.alloc (.cells #[.int .i8 0, .int .i8 0, .int .u8 0, .int .u8 0, .bool false] 33) = Y := ⟨_, rfl⟩
        obtain ⟨g, hg⟩ : ∃ g, u5.heap.size = g := ⟨_, rfl⟩
        have hga := hS5.1
        have hgl := hS5.2.lt
        rw [hY] at hbx hS9 ⊢
        rw [hg] at hbx hgl ⊢
        have hlo : a < g ∧ b < g ∧ d < g ∧ e < g := ⟨hg ▸ hga.pa.lt, hg ▸ hga.pb.lt, hg ▸ hga.pd.lt, hg ▸ hga.pm.lt⟩
        have hwg : w.heap.size ≤ g := hg ▸ hga.below.size
        clear hY hga
        refine ⟨hS9, ?_⟩
        refine takeOne 10 (by kernel_rfl) (by kernel_rfl) (by kernel_rfl) ?_
        refine wp_store_row 33 (.tmp 16) (.tmp 145) (by kernel_rfl) g #[.int .i8 0, .int .i8 0, .int .u8 0, .int .u8 0, .bool false] (by kernel_rfl) (by kernel_rfl) _ _ hbx.heap (Tryd.info_mvB _ _ _ _ _) rfl (Tryd.one_mvB _ _ _ _ _) ?_
        have hV := put_setRow Y g #[.int .i8 0, .int .i8 0, .int .u8 0, .int .u8 0, .bool false]
        have hSe : AwkAt w p q r a b d e (Y.setRow g #[.int .i8 0, .int .i8 0, .int .u8 0, .int .u8 0, .bool false]) ∧ RowAt (Y.setRow g #[.int .i8 0, .int .i8 0, .int .u8 0, .int .u8 0, .bool false]) l 9 N.badRow := ⟨⟨hV.pos hS9.1.pa (by omega), hV.pos hS9.1.pb (by omega), hV.pos hS9.1.pd (by omega), hV.row hS9.1.pm (by omega), hV.below hS9.1.below hwg⟩, hV.row hS9.2 (by omega)⟩
        refine ⟨hSe, ?_⟩
        refine takeD 11 (some 17) (.int .i64 5) (by kernel_rfl) (by kernel_rfl) (by kernel_rfl) (by kernel_rfl) (by kernel_rfl) (fun _ _ _ h => h) (yi_pure (v0 := .int .i64 5) (by kernel_rfl) (fun _ => by kernel_rfl) rfl) hSe ?_
        simp only [Act.put, List.setIfInBounds_toArray]
        refine wpAnyH_done (by kernel_rfl) ?_ _
        have HZ := Lib.hid hSe
        clear hSe hS5 hS9 hSd hV hbx
        go_wp2
        go_roundw
        case rel => exact ⟨n + 1, by omega, by go_num, HZ.out.1, HZ.out.2⟩
        case measure => simp [intOf]; omega
      · refine wpOp_valD 9 (some 16) (.pointer (some ⟨wr.drew.heap.size, 0, none⟩)) (wr.drew.alloc (.cells #[.int .i8 0, .int .i8 0, .int .u8 0, .int .u8 0, .bool false] 33)) (by kernel_rfl) (by kernel_rfl) (by kernel_rfl) (by kernel_rfl) ?_
        simp only [Act.put, List.setIfInBounds_toArray, List.set_cons_succ, List.set_cons_zero]
        have hbx := RowAt.new wr.drew #[.int .i8 0, .int .i8 0, .int .u8 0, .int .u8 0, .bool false] 33
        have hS9 : AwkAt w p q r a b d e (wr.drew.alloc (.cells #[.int .i8 0, .int .i8 0, .int .u8 0, .int .u8 0, .bool false] 33)) ∧ RowAt (wr.drew.alloc (.cells #[.int .i8 0, .int .i8 0, .int .u8 0, .int .u8 0, .bool false] 33)) l 9 N.badRow := ⟨hSd.1.next ((Below.refl _ _).alloc (Nat.le_refl _) _), hSd.2.alloc _⟩
        obtain ⟨Y, hY⟩ : ∃ Y, wr.drew.alloc (.cells #[.int .i8 0, .int .i8 0, .int .u8 0, .int .u8 0, .bool false] 33) = Y := ⟨_, rfl⟩
        obtain ⟨g, hg⟩ : ∃ g, wr.drew.heap.size = g := ⟨_, rfl⟩
        have hga := hSd.1
        have hgl := hSd.2.lt
        rw [hY] at hbx hS9 ⊢
        rw [hg] at hbx hgl ⊢
        have hlo : a < g ∧ b < g ∧ d < g ∧ e < g := ⟨hg ▸ hga.pa.lt, hg ▸ hga.pb.lt, hg ▸ hga.pd.lt, hg ▸ hga.pm.lt⟩
        have hwg : w.heap.size ≤ g := hg ▸ hga.below.size
        clear hY hga
        refine ⟨hS9, ?_⟩
        refine wpAnyH_all (rs := [5]) (by kernel_rfl) (by simp) (fun i3 hi3 => ?_)
        obtain rfl : i3 = 5 := by simpa using hi3
        clear hi3
        refine wpOp_callD 5 (some 144) 12 (#[.agg (posC p), .string B]) (.tuple #[.agg #[.int .i8 0, .int .i8 0, .int .u8 0, .int .u8 0, .bool false], .int .i64 5]) (fun w9 => Below Y.heap.size Y w9) (by kernel_rfl) (by kernel_rfl) (by kernel_rfl) (by kernel_rfl) (HB.out _) (fun u5 hRu5 => ?_)
        simp only [Act.put, List.setIfInBounds_toArray, List.set_cons_succ, List.set_cons_zero]
        have hS5 : AwkAt w p q r a b d e u5 ∧ RowAt u5 l 9 N.badRow := ⟨hS9.1.next hRu5, hS9.2.below hRu5⟩
        have hbx : RowAt u5 g 33 #[.int .i8 0, .int .i8 0, .int .u8 0, .int .u8 0, .bool false] := hbx.below hRu5
        refine ⟨hS5, ?_⟩
        refine takeD 6 (some 138) (.tuple #[.agg #[.int .i8 0, .int .i8 0, .int .u8 0, .int .u8 0, .bool false], .int .i64 5]) (by kernel_rfl) (by kernel_rfl) (by kernel_rfl) (by kernel_rfl) (by kernel_rfl) (fun _ _ _ h => h) (yi_pure (v0 := .tuple #[.agg #[.int .i8 0, .int .i8 0, .int .u8 0, .int .u8 0, .bool false], .int .i64 5]) (by kernel_rfl) (fun _ => by kernel_rfl) rfl) hS5 ?_
        simp only [Act.put, List.setIfInBounds_toArray, List.set_cons_succ, List.set_cons_zero]
        refine takeD 7 (some 145) (.agg #[.int .i8 0, .int .i8 0, .int .u8 0, .int .u8 0, .bool false]) (by kernel_rfl) (by kernel_rfl) (by kernel_rfl) (by kernel_rfl) (by kernel_rfl) (fun _ _ _ h => h) (yi_pure (v0 := .agg #[.int .i8 0, .int .i8 0, .int .u8 0, .int .u8 0, .bool false]) (by kernel_rfl) (fun _ => by kernel_rfl) rfl) hS5 ?_
        simp only [Act.put, List.setIfInBounds_toArray, List.set_cons_succ, List.set_cons_zero]
        refine takeD 8 (some 146) (.int .i64 5) (by kernel_rfl) (by kernel_rfl) (by kernel_rfl) (by kernel_rfl) (by kernel_rfl) (fun _ _ _ h => h) (yi_pure (v0 := .int .i64 5) (by kernel_rfl) (fun _ => by kernel_rfl) rfl) hS5 ?_
        simp only [Act.put, List.setIfInBounds_toArray, List.set_cons_succ, List.set_cons_zero]
        refine takeOne 10 (by kernel_rfl) (by kernel_rfl) (by kernel_rfl) ?_
        refine wp_store_row 33 (.tmp 16) (.tmp 145) (by kernel_rfl) g #[.int .i8 0, .int .i8 0, .int .u8 0, .int .u8 0, .bool false] (by kernel_rfl) (by kernel_rfl) _ _ hbx.heap (Tryd.info_mvB _ _ _ _ _) rfl (Tryd.one_mvB _ _ _ _ _) ?_
        have hV := put_setRow u5 g #[.int .i8 0, .int .i8 0, .int .u8 0, .int .u8 0, .bool false]
        have hSe : AwkAt w p q r a b d e (u5.setRow g #[.int .i8 0, .int .i8 0, .int .u8 0, .int .u8 0, .bool false]) ∧ RowAt (u5.setRow g #[.int .i8 0, .int .i8 0, .int .u8 0, .int .u8 0, .bool false]) l 9 N.badRow := ⟨⟨hV.pos hS5.1.pa (by omega), hV.pos hS5.1.pb (by omega), hV.pos hS5.1.pd (by omega), hV.row hS5.1.pm (by omega), hV.below hS5.1.below hwg⟩, hV.row hS5.2 (by omega)⟩
        refine ⟨hSe, ?_⟩
        refine takeD 11 (some 17) (.int .i64 5) (by kernel_rfl) (by kernel_rfl) (by kernel_rfl) (by kernel_rfl) (by kernel_rfl) (fun _ _ _ h => h) (yi_pure (v0 := .int .i64 5) (by kernel_rfl) (fun _ => by kernel_rfl) rfl) hSe ?_
        simp only [Act.put, List.setIfInBounds_toArray]
        refine wpAnyH_done (by kernel_rfl) ?_ _
        have HZ := Lib.hid hSe
        clear hSe hS5 hS9 hSd hV hbx
        go_wp2
        go_roundw
        case rel => exact ⟨n + 1, by omega, by go_num, HZ.out.1, HZ.out.2⟩
        case measure => simp [intOf]; omega
    · obtain rfl : n = 6 := by omega
      go_wp2
      go_ret
      exact ⟨rfl, HR.out.1.below⟩
end Go.Proofs.YtldpejeodhkgdaaDoor
