/- The document's answer of layer 8: By at a square that is there. -/
import Derived.Test.YtdfgpbighadplaaDoorRef08i
namespace Go.Proofs.YtdfgpbighadplaaDoor
open Go.RowKit Go.Sort

namespace D
def byTo (c : Nat → Int) (s : Nat) (color : Int) : Nat → BitVec 64
  | 0 => 0#64
  | n + 1 => if (P.kind (c (1 + n)) != 0 && (D.color (c (1 + n)) == color && hits c n s)) = true then bOr (byTo c s color n) (B.one n) else byTo c s color n
end D

set_option maxRecDepth 100000 in
set_option maxHeartbeats 1000000 in
theorem d8by_in (c : Nat → Int) (s : Nat) (color : Int) (w : World) (hc : BdOk c) (hs : s < 64) :
    Calls Tryd.prog 10 #[.agg (posC c), .int .i64 (s : Int), .int .u8 color] w fun e w' => e = .returned (.int .u64 (U (D.byTo c s color 64))) ∧ Below w.heap.size w w' := by
  have Hc := Lib.hid hc
  clear hc
  go_enter Tryd.func10, Tryd.ntmps10
  go_wp2
  have HW := Lib.hid (heap_alloc_new w (.cells (posC c) 31))
  have Hb0 := Lib.hid ((Below.refl w.heap.size w).alloc (Nat.le_refl _) (.cells (posC c) 31))
  go_loopw [7, 8] (fun v i wr => ∃ k : Nat, k ≤ 64 ∧ i = .int .i64 (k : Int) ∧ v = .int .u64 (U (D.byTo c s color k)) ∧ wr.heap[w.heap.size]? = some (.cells (posC c) 31 (0, 0)) ∧ Below w.heap.size w wr) (fun _ i _ => 64 - (intOf i).toNat)
  case atStart => exact ⟨0, Nat.zero_le _, rfl, rfl, HW.out, Hb0.out⟩
  case round =>
    obtain ⟨k, hk, rfl, rfl, hp, hbr⟩ := hrel
    have hz := (Array.getElem?_eq_some_iff.1 hp).1
    by_cases hlt : k < 64
    · obtain ⟨x0, x1⟩ := Hc.out k hlt
      have hcl := bd_cell hp k hlt
      have e := Lib.hid (show D.byTo c s color (k + 1) = if (P.kind (c (1 + k)) != 0 && (D.color (c (1 + k)) == color && D.hits c k s)) = true then bOr (D.byTo c s color k) (B.one k) else D.byTo c s color k from rfl)
      have hone : IntKind.u64.wrap (2 ^ k) = U (B.one k) := B.one_val k (by omega) (by omega)
      cases hkz : (P.kind (c (1 + k)) != 0)
      · rw [hkz] at e
        go_wp2_with (first | (go_at_call 22; refine (d8kind_any _ _ x0 x1).mono ?_; rintro e w' ⟨rfl, rfl⟩))
        exact ⟨⟨k + 1, by omega, by go_num, by rw [e.out]; rfl, hp, hbr⟩, by simp [intOf]; omega⟩
      · cases hco : (D.color (c (1 + k)) == color)
        · rw [hkz, hco] at e
          go_wp2_with (first | (go_at_call 22; refine (d8kind_any _ _ x0 x1).mono ?_; rintro e w' ⟨rfl, rfl⟩) | (go_at_call 23; refine (d8color_any _ _ x0 x1).mono ?_; rintro e w' ⟨rfl, rfl⟩))
          exact ⟨⟨k + 1, by omega, by go_num, by rw [e.out]; rfl, hp, hbr⟩, by simp [intOf]; omega⟩
        · cases hi : D.hits c k s
          all_goals
            rw [hkz, hco, hi] at e
            go_wp2_with (first | ((with_reducible refine wp_load_pos_g rfl _ rfl c ?_ ?_); · (exact ⟨_, _, _, rfl, hp⟩)) | (go_at_call 22; refine (d8kind_any _ _ x0 x1).mono ?_; rintro e w' ⟨rfl, rfl⟩) | (go_at_call 23; refine (d8color_any _ _ x0 x1).mono ?_; rintro e w' ⟨rfl, rfl⟩) | (go_at_call 24; refine (d8hits_eq c k s _ _ Hc.out hlt hs hi).mono ?_; rintro e w1 ⟨rfl, hb1⟩))
            exact ⟨⟨k + 1, by omega, by go_num, by rw [e.out]; rfl, (hb1.block _ hz).trans hp, below_next hbr hb1⟩, by simp [intOf]; omega⟩
    · obtain rfl : k = 64 := by omega
      go_wp2
      go_ret
      exact ⟨rfl, hbr⟩

end Go.Proofs.YtdfgpbighadplaaDoor
