/- The program's package order: Taken. -/
import Derived.Test.YtdcmjbebkmicaaaOrdT
namespace Go.Proofs.Ytdcmjbebkmicaaa
open Go.RowKit Go.Sort

set_option maxRecDepth 100000 in
set_option maxHeartbeats 4000000 in
theorem otaken_any (c : Nat → Int) (f t p d : Int) (ca : Bool) (w : World) (hc : PosOk c) : Calls Try.prog 14 #[.agg (posC c), .agg (M.cell (f, t, p, d, ca)).toArray] w fun e w' => e = .returned (.int .u8 (O.taken c (f, t, p, d, ca))) ∧ Grows w w' := by
  obtain ⟨v, hv⟩ : ∃ v, O.taken c (f, t, p, d, ca) = v := ⟨_, rfl⟩
  rw [hv]
  unfold O.taken at hv
  dsimp only at hv
  have hT := pos_u8' hc (show 78 < 88 by omega) rfl
  have hP := PosAt.new w c
  unfold M.cell
  by_cases hd : d = 0
  · subst hd
    cases ca
    · obtain ⟨bf, hbf⟩ : ∃ b, O.sq f = b := ⟨_, rfl⟩
      obtain ⟨bt, hbt⟩ : ∃ b, O.sq t = b := ⟨_, rfl⟩
      rw [hbf, hbt] at hv
      cases bf
      · have hv0 : v = 0 := by simpa using hv.symm
        subst hv0
        clear hc hv
        go_enter Try.func14, Try.ntmps14
        go_wp2_with (first
          | (go_at_call 37; refine (osquare_eq _ _ _ hbf).mono ?_; rintro e w' ⟨rfl, rfl⟩)
          | fail)
        go_ret
        exact ⟨rfl, (Grows.alloc _ _).trans (Grows.alloc _ _)⟩
      · cases bt
        · have hv0 : v = 0 := by simpa using hv.symm
          subst hv0
          clear hc hv
          go_enter Try.func14, Try.ntmps14
          go_wp2_with (first
            | (go_at_call 37; refine (osquare_eq _ _ _ (by assumption)).mono ?_; rintro e w' ⟨rfl, rfl⟩)
            | fail)
          go_ret
          exact ⟨rfl, (Grows.alloc _ _).trans (Grows.alloc _ _)⟩
        · refine otaken_in c f t p v w hc hbf hbt ?_
          rw [← hv]
          have e : ((0 : Int) != 0 || false || !true || !true || decide (1 < c 78)) = decide (1 < c 78) := by simp
          rw [e]
          by_cases h1 : 1 < c 78
          · rw [if_pos h1, if_pos (decide_eq_true h1)]
          · rw [if_neg h1, if_neg (show ¬ (decide (1 < c 78) = true) from by simpa using h1)]
    · have hv0 : v = 0 := by simpa using hv.symm
      subst hv0
      clear hc hv
      go_enter Try.func14, Try.ntmps14
      go_wp2
      go_ret
      exact ⟨rfl, (Grows.alloc _ _).trans (Grows.alloc _ _)⟩
  · have hd' : (d != 0) = true := by simpa using hd
    have hv0 : v = 0 := by rw [hd'] at hv; simpa using hv.symm
    subst hv0
    clear hc hv
    go_enter Try.func14, Try.ntmps14
    go_wp2
    go_ret
    exact ⟨rfl, (Grows.alloc _ _).trans (Grows.alloc _ _)⟩

namespace O
theorem taken_eq (c : Nat → Int) (m : Mv) (v : Int) (w : World) (hc : PosOk c) (h : taken c m = v) : Calls Try.prog 14 #[.agg (posC c), .agg (M.cell m).toArray] w fun e w' => e = .returned (.int .u8 v) ∧ Grows w w' := by
  rw [← h]; exact otaken_any c _ _ _ _ _ w hc
theorem moving_eq (c : Nat → Int) (m : Mv) (v : Int) (w : World) (hc : PosOk c) (h : moving c m = v) : Calls Try.prog 15 #[.agg (posC c), .agg (M.cell m).toArray] w fun e w' => e = .returned (.int .u8 v) ∧ Grows w w' := by
  rw [← h]; exact omoving_any c _ _ _ _ _ w hc
theorem taken_bd {c : Nat → Int} (hc : PosOk c) (m : Mv) : 0 ≤ taken c m ∧ taken c m ≤ 6 := by
  unfold taken
  have h := on_bd hc m.2.1
  have := P.kind_bd (on c m.2.1) h.1 h.2
  split
  · omega
  · split
    · exact this
    · split <;> omega
end O

end Go.Proofs.Ytdcmjbebkmicaaa
