/- The program's package attack: From, every way. -/
import Derived.Test.YtdfgpbighadplaaDoorFrom
namespace Go.Proofs.YtdfgpbighadplaaDoor
open Go.RowKit Go.Sort

set_option maxRecDepth 100000 in
set_option maxHeartbeats 2000000 in
theorem from_empty (c : Nat → Int) (s : Nat) (w : World) (hc : BdOk c) (hs : s < 64) (hk : P.kind (c (1 + s)) = 0) :
    Calls Tryd.prog 14 #[.agg (posC c), .int .i64 (s : Int)] w fun e w' => e = .returned (.int .u64 (U 0#64)) ∧ Below w.heap.size w w' := by
  have hth := Lib.hid (show K.there (s : Int) = true by unfold K.there; simp; omega)
  obtain ⟨h0, h1⟩ := hc s hs
  have Hk := Lib.hid hk
  clear hc hk
  have hcell : ∀ w' : World, w'.heap[w.heap.size]? = some (.cells (posC c) 31 (0, 0)) → w'.cell? ⟨w.heap.size, 1 + s, none⟩ = some (.int .u8 (c (1 + s))) := fun w' hg => by simp only [World.cell?, hg]; exact posC_board c s hs
  have hcl := hcell _ (heap_alloc_new w (.cells (posC c) 31))
  go_enter Tryd.func14, Tryd.ntmps14
  go_wp2_with (first | (go_at_call 25; refine (there_eq _ true _ hth.out).mono ?_; rintro e w' ⟨rfl, rfl⟩) | (go_at_call 29; refine (kind_eq _ _ _ h0 h1 Hk.out).mono ?_; rintro e w' ⟨rfl, rfl⟩))
  go_ret
  exact ⟨rfl, (Below.refl _ _).alloc (Nat.le_refl _) _⟩

theorem from_any (c : Nat → Int) (s : Int) (w : World) (hc : BdOk c) (hT : Tb w) :
    Calls Tryd.prog 14 #[.agg (posC c), .int .i64 s] w fun e w' => e = .returned (.int .u64 (U (K.from c s))) ∧ Below w.heap.size w w' := by
  cases h : K.there s
  · exact from_none c s w h
  · have hs : 0 ≤ s ∧ s < 64 := by unfold K.there at h; simpa using h
    obtain ⟨n, rfl⟩ : ∃ n : Nat, s = (n : Int) := ⟨s.toNat, by omega⟩
    have hn : n < 64 := by omega
    obtain ⟨h0, h1⟩ := hc n hn
    have hb := P.kind_bd _ h0 h1
    have e : K.from c n = K.hits (P.kind (c (1 + n))).toNat (P.color (c (1 + n))) n (S.all c) := by unfold K.from; rw [if_pos h]; rfl
    rw [e]
    generalize hk : P.kind (c (1 + n)) = k at *
    rcases (show k = 0 ∨ k = 1 ∨ k = 2 ∨ k = 3 ∨ k = 4 ∨ k = 5 ∨ k = 6 by omega) with rfl | rfl | rfl | rfl | rfl | rfl | rfl
    · exact from_empty c n w hc hn hk
    · exact from_pawn c n w hc hT hn hk
    · exact from_knight c n w hc hT hn hk
    · exact from_bishop c n w hc hT hn hk
    · exact from_rook c n w hc hT hn hk
    · exact from_queen c n w hc hT hn hk
    · exact from_king c n w hc hT hn hk

end Go.Proofs.YtdfgpbighadplaaDoor
