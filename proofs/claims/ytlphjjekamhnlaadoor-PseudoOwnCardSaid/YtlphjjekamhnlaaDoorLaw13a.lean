/- The laws of layer 13: the document's List; Takes; awake. -/
import Derived.Test.YtlphjjekamhnlaaDoorTaken
import Derived.Test.YtlphjjekamhnlaaDoorStartC
namespace Go.Proofs.YtlphjjekamhnlaaDoor
open Go.RowKit Go.Sort

set_option maxRecDepth 100000 in
set_option maxHeartbeats 1000000 in
theorem d13list_any (c : Nat → Int) (w : World) (hc : PosOk c) : Calls Tryd.prog 14 #[.agg (posC c)] w (Z.End (D.lst c) w) := by
  obtain ⟨t0, _⟩ := pos_u8 hc (i := 78) (by decide) rfl
  obtain ⟨t, ht⟩ : ∃ t : Nat, c 78 = (t : Int) := ⟨(c 78).toNat, by omega⟩
  cases hok : Z.ok c
  · have E := Lib.hid (show D.lst c = [] by unfold D.lst; rw [if_neg (by rw [hok]; simp)])
    have HTh : Hid (∀ w, Calls Tryd.prog 27 #[.agg (posC c)] w fun e w' => e = .returned (.bool false) ∧ Below w.heap.size w w') := Lib.hid (fun w => d13there_eq c false w hok)
    have hp := PosAt.new w c
    have hb0 : Below w.heap.size w (w.alloc (.cells (posC c) 31)) := (Below.refl _ _).alloc (Nat.le_refl _) _
    obtain ⟨W, hW⟩ : ∃ W, w.alloc (.cells (posC c) 31) = W := ⟨_, rfl⟩
    rw [hW] at hp hb0
    have HP := Lib.hid hp
    have HB := Lib.hid hb0
    clear hok ht t0 hc hp hb0
    go_enter Tryd.func14, Tryd.ntmps14
    go_wp2_with (first
      | ((with_reducible refine wp_load_box rfl _ rfl ?_); refine ⟨_, _, rfl, HP.out, ?_⟩)
      | (go_at_call 27; refine (HTh.out _).mono ?_; rintro e w1 ⟨rfl, hb1⟩))
    go_ret
    exact ⟨_, rfl, by rw [E.out]; exact World.ownsRow_nil _ _ _ _, below_next HB.out hb1⟩
  · have ht1 : t ≤ 1 := by
      unfold Z.ok at hok
      simp at hok
      omega
    have := d13list_in c t w hc ht ht1 hok
    rw [show D.lst c = D.list13 c t by unfold D.lst; rw [if_pos hok, ht, Int.toNat_natCast]]
    exact this
set_option maxRecDepth 100000 in
set_option maxHeartbeats 2000000 in
theorem ptakes_any (c : Nat → Int) (f g p d : Int) (ca : Bool) (w : World) (hc : PosOk c) (hT : Tb w) :
    Calls Tryd.prog 33 #[.agg (posC c), .agg #[.int .i8 f, .int .i8 g, .int .u8 p, .int .u8 d, .bool ca]] w fun e w' => e = .returned (.bool (decide (0 ≤ Z.taken c (f, g, p, d, ca)))) ∧ Below w.heap.size w w' := by
  have hp := PosAt.new w c
  have hb0 : Below w.heap.size w (w.alloc (.cells (posC c) 31)) := (Below.refl _ _).alloc (Nat.le_refl _) _
  obtain ⟨W0, hW0⟩ : ∃ W0, w.alloc (.cells (posC c) 31) = W0 := ⟨_, rfl⟩
  have hs1 : W0.heap.size = w.heap.size + 1 := by rw [← hW0]; simp
  rw [hW0] at hp hb0
  have hm := RowAt.new W0 #[.int .i8 f, .int .i8 g, .int .u8 p, .int .u8 d, .bool ca] 36
  replace hp := hp.alloc (.cells #[.int .i8 f, .int .i8 g, .int .u8 p, .int .u8 d, .bool ca] 36)
  replace hb0 := hb0.alloc (by omega) (.cells #[.int .i8 f, .int .i8 g, .int .u8 p, .int .u8 d, .bool ca] 36)
  obtain ⟨W, hW⟩ : ∃ W, W0.alloc (.cells #[.int .i8 f, .int .i8 g, .int .u8 p, .int .u8 d, .bool ca] 36) = W := ⟨_, rfl⟩
  rw [hW] at hp hm hb0
  rw [hs1] at hm
  have HP := Lib.hid (And.intro hp (And.intro hm hb0))
  have HK : Hid (∀ w', Below w.heap.size w w' → Calls Tryd.prog 32 #[.agg (posC c), .agg #[.int .i8 f, .int .i8 g, .int .u8 p, .int .u8 d, .bool ca]] w' fun e w'' => e = .returned (.int .i64 (Z.taken c (f, g, p, d, ca))) ∧ Below w'.heap.size w' w'') := Lib.hid (fun w' hb => ptaken_any c f g p d ca w' hc (tb_below hT hb))
  clear hp hm hb0 hc hT
  go_enter Tryd.func33, Tryd.ntmps33
  go_wp2_with (first
    | ((with_reducible refine wp_load_box rfl _ rfl ?_); refine ⟨_, _, rfl, HP.out.1, ?_⟩)
    | ((with_reducible refine wp_load_row' rfl 36 _ rfl Tryd.underlying36 rfl ?_); refine ⟨w.heap.size + 1, 36, _, rfl, HP.out.2.1, Tryd.size_Mv, ?_⟩)
    | (go_at_call 32; refine (HK.out _ HP.out.2.2).mono ?_; rintro e w1 ⟨rfl, hb1⟩))
  go_ret
  exact ⟨rfl, below_next HP.out.2.2 hb1⟩

namespace Z
def aw0 : Nat → Int := V.start 0
def aw1 : Nat → Int := upd (upd noneC 49 1) 58 10
def aw2 : Nat → Int := upd (upd (upd noneC 83 43) 37 1) 36 9
end Z
theorem posOk_of (c : Nat → Int) (h : ∀ i : Fin 88, (Lit.int (pk i.val) (c i.val)).wf = true) : PosOk c := fun i hi => h ⟨i, hi⟩
theorem aw0_ok : PosOk Z.aw0 := posOk_of _ (by decide +kernel)
theorem aw1_ok : PosOk Z.aw1 := posOk_of _ (by decide +kernel)
theorem aw2_ok : PosOk Z.aw2 := posOk_of _ (by decide +kernel)
theorem aw0_ls : (D.lst Z.aw0).length = 20 ∧ (D.lst Z.aw0)[0]? = some (1, 16, 0, 0, false) ∧ (D.lst Z.aw0)[5]? = some (8, 24, 0, 0, false) := by decide +kernel
theorem aw1_ls : (D.lst Z.aw1).length = 8 ∧ (D.lst Z.aw1)[0]? = some (48, 56, 2, 0, false) ∧ (D.lst Z.aw1)[7]? = some (48, 57, 5, 0, false) := by decide +kernel
theorem aw2_ls : (D.lst Z.aw2).length = 2 ∧ (D.lst Z.aw2)[0]? = some (36, 43, 0, 0, false) ∧ (D.lst Z.aw2)[1]? = some (36, 44, 0, 0, false) := by decide +kernel
theorem aw2_tk : Z.taken Z.aw2 (36, 43, 0, 0, false) = 35 ∧ Z.taken Z.aw2 (36, 44, 0, 0, false) = -1 := by decide +kernel
end Go.Proofs.YtlphjjekamhnlaaDoor
