/- ValidFirst: the first positions are valid. -/
import Derived.Test.YtlphjjekamhnlaaDoorStartG
namespace Go.Proofs.YtlphjjekamhnlaaDoor
open Go.RowKit Go.Sort
attribute [local go_sem] Oper.semAt_some

theorem mod960 (s : Int) : ∃ n : Nat, n < 960 ∧ (IntKind.u64.wrap s).tmod 960 = (n : Int) := by
  have h : 0 ≤ IntKind.u64.wrap s := by rw [IntKind.wrap_u64]; omega
  refine ⟨((IntKind.u64.wrap s) % 960).toNat, by omega, ?_⟩
  rw [Int.tmod_eq_emod_of_nonneg h]
  omega
set_option maxRecDepth 100000 in
set_option maxHeartbeats 4000000 in
theorem validFirst_walk (x y : Int) (w : World) (hx : 0 ≤ x) (hT : Tb w) :
    Calls Tryd.prog 11 #[.int .u8 x, .int .i64 y] w fun e w' => e = .returned (.bool true) ∧ Below w.heap.size w w' := by
  obtain ⟨v, hv⟩ : ∃ v : Nat, x % 9 = (v : Int) := ⟨(x % 9).toNat, by omega⟩
  have hv9 : v < 9 := by omega
  have mv : x.tmod 9 = (v : Int) := by rw [Int.tmod_eq_emod_of_nonneg hx]; exact hv
  obtain ⟨n, hn, en⟩ := mod960 y
  have HT := Lib.hid (fun W (hb : Below w.heap.size w W) => tb_below hT hb)
  have HSa : Hid (∀ W, Calls Tryd.prog 23 #[.int .u8 (v : Int)] W fun e w' => e = .returned (.tuple #[.agg (posC (V.startAll v)), .bool true]) ∧ Below W.heap.size W w') := Lib.hid (fun W => startAll_any v W hv9)
  have HSb : Hid (∀ W, Calls Tryd.prog 24 #[.int .i64 (n : Int)] W fun e w' => e = .returned (.tuple #[.agg (posC (V.start960 n)), .bool true]) ∧ Below W.heap.size W w') := Lib.hid (fun W => start960_any n W hn)
  have HCa : Hid (∀ W, Tb W → Calls Tryd.prog 19 #[.agg (posC (V.startAll v))] W fun e w' => e = .returned (.int .i64 0) ∧ Below W.heap.size W w') := Lib.hid (fun W h => vfirst_val (V.startAll v) 0 W (V.startAll_good v hv9).2 h (V.startAll_good v hv9).1)
  have HCb : Hid (∀ W, Tb W → Calls Tryd.prog 19 #[.agg (posC (V.start960 n))] W fun e w' => e = .returned (.int .i64 0) ∧ Below W.heap.size W w') := Lib.hid (fun W h => vfirst_val (V.start960 n) 0 W (V.start960_good n hn).2 h (V.start960_good n hn).1)
  have wn : IntKind.i64.wrap (n : Int) = (n : Int) := by rw [IntKind.wrap_i64]; omega
  obtain ⟨a, ha⟩ : ∃ a, V.startAll v = a := ⟨_, rfl⟩
  obtain ⟨b, hb⟩ : ∃ b, V.start960 n = b := ⟨_, rfl⟩
  rw [ha] at HSa HCa
  rw [hb] at HSb HCb
  clear ha hb hT hx hv9 hn
  go_enter Tryd.func11, Tryd.ntmps11
  go_upto_region 2 with (first
    | (go_at_call 23; (with_reducible refine (HSa.out _).mono ?_); rintro e w1 ⟨rfl, hb1⟩; have HB1 := Lib.hid hb1; clear hb1)
    | ((with_reducible refine wp_store_box rfl _ _ rfl ?_); refine ⟨w1.heap.size, a, rfl, rfl, ⟨_, heap_alloc_new _ _, (by kernel_rfl)⟩, ?_⟩; intro V1 hP hq; have H1 := Lib.hid (And.intro (hP.below (HB1.out.alloc HB1.out.size _) HB1.out.size) hq); clear hP hq))
  obtain ⟨g, hg⟩ : ∃ g, w1.heap.size = g := ⟨_, rfl⟩
  rw [hg] at H1 ⊢
  clear hg HB1 HSa
  go_upto_region 3 with (first
    | (go_at_call 24; (with_reducible refine (HSb.out _).mono ?_); rintro e w2 ⟨rfl, hb2⟩; have H2 := Lib.hid (And.intro (below_next H1.out.1 hb2) (H1.out.2.below hb2)); clear hb2)
    | ((with_reducible refine wp_store_box rfl _ _ rfl ?_); refine ⟨w2.heap.size, b, rfl, rfl, ⟨_, heap_alloc_new _ _, (by kernel_rfl)⟩, ?_⟩; intro V2 hP hq; have H3 := Lib.hid (And.intro (hP.below (H2.out.1.alloc H2.out.1.size _) H2.out.1.size) (And.intro (hP.pos (H2.out.2.alloc _) (Nat.ne_of_lt H2.out.2.lt)) hq)); clear hP hq))
  obtain ⟨h, hh⟩ : ∃ h, w2.heap.size = h := ⟨_, rfl⟩
  rw [hh] at H3 ⊢
  clear hh H2 H1 HSb
  go_wp2_with (first
    | ((with_reducible refine wp_load_box_g rfl _ rfl ?_); refine ⟨g, a, rfl, H3.out.2.1, ?_⟩)
    | ((with_reducible refine wp_load_box_g rfl _ rfl ?_); refine ⟨h, b, rfl, H4.out.2, ?_⟩)
    | (go_at_call 19; (with_reducible refine (HCa.out _ (HT.out _ H3.out.1)).mono ?_); rintro e w4 ⟨rfl, hb4⟩; have H4 := Lib.hid (And.intro (below_next H3.out.1 hb4) (H3.out.2.2.below hb4)); clear hb4)
    | (go_at_call 19; (with_reducible refine (HCb.out _ (HT.out _ H4.out.1)).mono ?_); rintro e w5 ⟨rfl, hb5⟩; have H5 := Lib.hid (below_next H4.out.1 hb5); clear hb5)
    | (go_at_call 20; (refine (awake12_any _ (HT.out _ H5.out)).mono ?_); rintro e w6 ⟨rfl, hb6⟩; have H6 := Lib.hid (below_next H5.out hb6); clear hb6))
  go_ret
  exact ⟨rfl, H6.out⟩
end Go.Proofs.YtlphjjekamhnlaaDoor
