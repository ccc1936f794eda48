/- The document's answer of layer 8: Hits, every kind; From. -/
import Derived.Test.YtdfgpbighadplaaDoorRef08h
namespace Go.Proofs.YtdfgpbighadplaaDoor
open Go.RowKit Go.Sort

theorem d8hits_any (c : Nat → Int) (a b : Nat) (w : World) (hc : BdOk c) (ha : a < 64) (hb : b < 64) :
    Calls Tryd.prog 24 #[.agg (posC c), .int .i64 (a : Int), .int .i64 (b : Int)] w fun e w' => e = .returned (.bool (D.hits c a b)) ∧ Below w.heap.size w w' := by
  obtain ⟨h0, h1⟩ := hc a ha
  have hk := P.kind_bd _ h0 h1
  rcases (show P.kind (c (1 + a)) = 0 ∨ P.kind (c (1 + a)) = 1 ∨ P.kind (c (1 + a)) = 2 ∨ P.kind (c (1 + a)) = 3 ∨ P.kind (c (1 + a)) = 4 ∨ P.kind (c (1 + a)) = 5 ∨ P.kind (c (1 + a)) = 6 by omega) with h | h | h | h | h | h | h
  · exact d8hits_none c a b w hc ha hb h
  · exact d8hits_pawn c a b w hc ha hb h
  · exact d8hits_knight c a b w hc ha hb h
  · exact d8hits_bishop c a b w hc ha hb h
  · exact d8hits_rook c a b w hc ha hb h
  · exact d8hits_queen c a b w hc ha hb h
  · exact d8hits_king c a b w hc ha hb h

theorem d8hits_eq (c : Nat → Int) (a b : Nat) (v : Bool) (w : World) (hc : BdOk c) (ha : a < 64) (hb : b < 64) (h : D.hits c a b = v) :
    Calls Tryd.prog 24 #[.agg (posC c), .int .i64 (a : Int), .int .i64 (b : Int)] w fun e w' => e = .returned (.bool v) ∧ Below w.heap.size w w' := by
  rw [← h]; exact d8hits_any c a b w hc ha hb

namespace D
def fromTo (c : Nat → Int) (a : Nat) : Nat → BitVec 64
  | 0 => 0#64
  | n + 1 => if hits c a n = true then bOr (fromTo c a n) (B.one n) else fromTo c a n
end D

set_option maxRecDepth 100000 in
set_option maxHeartbeats 1000000 in
theorem d8from_in (c : Nat → Int) (a : Nat) (w : World) (hc : BdOk c) (ha : a < 64) :
    Calls Tryd.prog 15 #[.agg (posC c), .int .i64 (a : Int)] w fun e w' => e = .returned (.int .u64 (U (D.fromTo c a 64))) ∧ Below w.heap.size w w' := by
  have Hc := Lib.hid hc
  clear hc
  go_enter Tryd.func15, Tryd.ntmps15
  go_wp2
  have HW := Lib.hid (heap_alloc_new w (.cells (posC c) 31))
  have Hb0 := Lib.hid ((Below.refl w.heap.size w).alloc (Nat.le_refl _) (.cells (posC c) 31))
  go_loopw [5, 6] (fun v i wr => ∃ k : Nat, k ≤ 64 ∧ i = .int .i64 (k : Int) ∧ v = .int .u64 (U (D.fromTo c a k)) ∧ wr.heap[w.heap.size]? = some (.cells (posC c) 31 (0, 0)) ∧ Below w.heap.size w wr) (fun _ i _ => 64 - (intOf i).toNat)
  case atStart => exact ⟨0, Nat.zero_le _, rfl, rfl, HW.out, Hb0.out⟩
  case round =>
    obtain ⟨k, hk, rfl, rfl, hp, hbr⟩ := hrel
    have hz := (Array.getElem?_eq_some_iff.1 hp).1
    by_cases hlt : k < 64
    · cases hi : D.hits c a k
      · have e := Lib.hid (show D.fromTo c a (k + 1) = D.fromTo c a k by rw [D.fromTo, hi]; rfl)
        go_wp2_with (first | ((with_reducible refine wp_load_pos rfl _ rfl c ?_ ?_); · (exact ⟨_, _, _, rfl, hp⟩)) | (go_at_call 24; refine (d8hits_eq c a k false _ Hc.out ha hlt hi).mono ?_; rintro e w1 ⟨rfl, hb1⟩))
        exact ⟨⟨k + 1, by omega, by go_num, by rw [e.out], (hb1.block _ hz).trans hp, below_next hbr hb1⟩, by simp [intOf]; omega⟩
      · have e := Lib.hid (show D.fromTo c a (k + 1) = bOr (D.fromTo c a k) (B.one k) by rw [D.fromTo, hi]; rfl)
        have hone : IntKind.u64.wrap (2 ^ k) = U (B.one k) := B.one_val k (by omega) (by omega)
        go_wp2_with (first | ((with_reducible refine wp_load_pos rfl _ rfl c ?_ ?_); · (exact ⟨_, _, _, rfl, hp⟩)) | (go_at_call 24; refine (d8hits_eq c a k true _ Hc.out ha hlt hi).mono ?_; rintro e w1 ⟨rfl, hb1⟩))
        exact ⟨⟨k + 1, by omega, by go_num, by rw [e.out], (hb1.block _ hz).trans hp, below_next hbr hb1⟩, by simp [intOf]; omega⟩
    · obtain rfl : k = 64 := by omega
      go_wp2
      go_ret
      exact ⟨rfl, hbr⟩

end Go.Proofs.YtdfgpbighadplaaDoor
