/- The laws on pieces: PiecesLetters, its walk. -/
import Derived.Test.YthnmbjolljpkaaaLaw05
namespace Go.Proofs.Ythnmbjolljpkaaa
open Go.RowKit

set_option maxRecDepth 100000 in
set_option maxHeartbeats 1000000 in
theorem piecesLetters_walk (p : Int) (s : ByteArray) (w : World) (h0 : 0 ≤ p) (h1 : p ≤ 255) (_hs : s.size ≤ 9223372036854775807) :
    Calls Try.prog 4 #[.int .u8 p, .string s] w fun e w' => e = .returned (.bool true) ∧ Below w.heap.size w w' := by
  have hb0 := Below.refl w.heap.size w
  by_cases hlen : 5000 < (s.size : Int)
  · go_enter Try.func4, Try.ntmps4
    go_wp2
    go_ret
    exact ⟨rfl, hb0⟩
  · obtain ⟨q, ok, hp⟩ := P.parsed_any s
    go_enter Try.func4, Try.ntmps4
    go_wp2_with (first | (go_at_call 18; refine (parse_eq _ _ _ (by assumption) _).mono ?_; rintro e w' ⟨rfl, hb⟩; replace hb0 := below_next hb0 hb; clear hb) | (go_at_call 19; refine (r5parse_eq _ _ _ (by assumption) _).mono ?_; rintro e w' ⟨rfl, hb⟩; replace hb0 := below_next hb0 hb; clear hb))
    refine (kinds_any _).mono ?_
    rintro e w1 ⟨b, cap, rfl, hbb, hbs, hcap, hcell, hfr, hb⟩
    replace hbb : w.heap.size ≤ b := Nat.le_trans hb0.size hbb
    replace hb0 := below_next hb0 hb
    clear hb
    have Hb0 := Lib.hid hb0
    have Hcell := Lib.hid hcell
    have Hfr := Lib.hid hfr
    clear hb0 hcell hfr
    go_wp2_with fail
    go_loopw [10] (fun i wy => ∃ j : Nat, j ≤ 6 ∧ i = .int .i64 (j : Int) ∧ Hid (∀ k : Nat, j ≤ k → k < 6 → wy.cell? ⟨b, k, none⟩ = some (.int .u8 ((k : Int) + 1))) ∧ Hid (∀ k, wy.frozen? ⟨b, k, none⟩ = false) ∧ Below w.heap.size w wy) (fun i _ => 6 - (intOf i).toNat)
    case atStart => exact ⟨0, by omega, rfl, fun k _ hk => Hcell.out k hk, Hfr.out, Hb0.out⟩
    case round =>
      obtain ⟨j, hj, rfl, HC, HF, hbr⟩ := hrel
      by_cases hjl : j < 6
      · have hc := HC.out j (Nat.le_refl _) hjl
        have hf := HF.out j
        go_wp2
        exact ⟨⟨j + 1, by omega, by go_num, (fun k hk hk6 => by rw [World.cell?_setCell_other (h := (by simp : (⟨b, j, none⟩ : Addr) ≠ ⟨b, k, none⟩))]; exact HC.out k (by omega) hk6), (fun k => by rw [World.frozen?_setCell]; exact HF.out k), hbr.setCell hbb _⟩, by simp [intOf]; omega⟩
      · obtain rfl : j = 6 := by omega
        have hb0 := hbr
        clear hbr
        go_wp2_with fail
        refine (kinds_any _).mono ?_
        rintro e w2 ⟨kb, kcap, rfl, hkb, hks, hkc, hkcell, hkfr, hb⟩
        have Hbr := Lib.hid (below_next hb0 hb)
        have k00 := Lib.hid (hkcell 0 (by omega))
        clear hkcell hkfr hb0 hb
        have hb0 := Below.refl w2.heap.size w2
        go_wp2_with (first | (go_at_call 24; refine (r5other_walk _ _ (by omega) (by omega)).mono ?_; rintro e w' ⟨rfl, hb⟩; replace hb0 := below_next hb0 hb; clear hb; have k0 := (hb0.cell (p := ⟨kb, 0, none⟩) hks).trans k00.out) | (go_at_call 21; refine (letter_any _ _ (by omega) (by omega)).mono ?_; rintro e w' ⟨rfl, rfl⟩) | (go_at_call 22; refine (r5letter_walk _ _ (by omega)).mono ?_; rintro e w' ⟨rfl, hb⟩; replace hb0 := below_next hb0 hb; clear hb) | (go_at_call 23; refine (other_any _ _ (by omega) (by omega)).mono ?_; rintro e w' ⟨rfl, rfl⟩))
        go_ret
        exact ⟨rfl, below_next Hbr.out hb0⟩

end Go.Proofs.Ythnmbjolljpkaaa
