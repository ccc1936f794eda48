/- The laws on pieces: PiecesTwelve, its walk. -/
import Derived.Test.YthnmbjolljpkaaaLaw05c
import Derived.IntWalk
namespace Go.Proofs.Ythnmbjolljpkaaa
open Go.RowKit

def P.lb (p : Int) : UInt8 := (P.letter p).data.getD 0 0
theorem P.letter_lb (p : Int) (h0 : 0 ≤ p) (h : P.isB p = true) : (P.letter p).data.toList = [P.lb p] := by
  obtain ⟨n, hn, rfl⟩ := P.is_at p h0 h
  have k : ∀ n : Fin 12, (P.letter (P.at n.val)).data.toList = [P.lb (P.at n.val)] := by decide +kernel
  exact k ⟨n, hn⟩
theorem P.lb_inj (p q : Int) (h0 : 0 ≤ p) (h : P.isB p = true) (h1 : 0 ≤ q) (h2 : P.isB q = true) (e : P.lb p = P.lb q) : p = q := by
  obtain ⟨n, hn, rfl⟩ := P.is_at p h0 h
  obtain ⟨m, hm, rfl⟩ := P.is_at q h1 h2
  have k : ∀ n m : Fin 12, P.lb (P.at n.val) = P.lb (P.at m.val) → P.at n.val = P.at m.val := by decide +kernel
  exact k ⟨n, hn⟩ ⟨m, hm⟩ e
theorem P.ltr_mem (a : Int) (i : Nat) (x : UInt8) (h : x ∈ (P.ltr a i).data.toList) : ∃ j, j < i ∧ P.isB (P.nth a j) = true ∧ x = P.lb (P.nth a j) := by
  induction i with
  | zero => simp [P.ltr] at h
  | succ i ih =>
    unfold P.ltr at h
    by_cases hb : P.isB (P.nth a i) = true
    · rw [if_pos hb] at h
      simp only [ByteArray.data_append, Array.toList_append, List.mem_append] at h
      rcases h with h | h
      · obtain ⟨j, hj, r⟩ := ih h
        exact ⟨j, by omega, r⟩
      · rw [P.letter_lb _ (P.nth_bd a i).1 hb] at h
        simp at h
        exact ⟨i, by omega, hb, h⟩
    · rw [if_neg hb] at h
      obtain ⟨j, hj, r⟩ := ih h
      exact ⟨j, by omega, r⟩
theorem P.ltr_new (a : Int) (i k : Nat) (hi : i < 256) (hb : P.isB (P.nth a i) = true) :
    (((P.ltr a i).extract k (k + 1)).toList == (P.letter (P.nth a i)).toList) = false := by
  rw [beq_eq_false_iff_ne]
  intro e
  rw [Lib.toList_data, Lib.toList_data, P.letter_lb _ (P.nth_bd a i).1 hb] at e
  have hs := P.ltr_size a i
  rw [Lib.size_eq] at hs
  rw [Lib.extract_data] at e
  have hx : P.lb (P.nth a i) ∈ (P.ltr a i).data.toList := by
    have : P.lb (P.nth a i) ∈ ((P.ltr a i).data.toList.drop k).take (k + 1 - k) := by rw [e]; simp
    exact List.mem_of_mem_drop (List.mem_of_mem_take this)
  obtain ⟨j, hj, hjb, hjl⟩ := P.ltr_mem a i _ hx
  have := P.lb_inj _ _ (P.nth_bd a i).1 hb (P.nth_bd a j).1 hjb hjl
  unfold P.nth at this
  omega

set_option maxRecDepth 100000 in
set_option maxHeartbeats 1000000 in
theorem piecesTwelve_walk (a : Int) (w : World) (h0 : 0 ≤ a) (h1 : a ≤ 255) :
    Calls Try.prog 7 #[.int .u8 a] w fun e w' => e = .returned (.bool true) ∧ Below w.heap.size w w' := by
  have hb0 := Below.refl w.heap.size w
  have hall := Lib.hid (P.cnt_all ⟨a.toNat, by omega⟩)
  rw [show (((⟨a.toNat, by omega⟩ : Fin 256).val : Nat) : Int) = a by simp; omega] at hall
  go_enter Try.func7, Try.ntmps7
  go_wp2_with (first | (go_at_call 25; refine (awake_walk _).mono ?_; rintro e w' ⟨rfl, hb⟩; replace hb0 := below_next hb0 hb; clear hb))
  have Hb0 := Lib.hid hb0
  clear hb0
  go_loopw [3, 4, 5, 6] (fun n wh l i wr => ∃ k : Nat, k ≤ 256 ∧ i = .int .i64 (k : Int) ∧ n = .int .i64 (P.cnt a k : Int) ∧ wh = .int .i64 (P.wht a k : Int) ∧ l = .string (P.ltr a k) ∧ Below w.heap.size w wr) (fun _ _ _ i _ => 256 - (intOf i).toNat)
  case atStart => exact ⟨0, by omega, rfl, rfl, rfl, rfl, Hb0.out⟩
  case round =>
    obtain ⟨k, hk, rfl, rfl, rfl, rfl, hb⟩ := hrel
    have hnb := P.nth_bd a k
    have c1 := P.cnt_le a k
    have c2 := P.wht_le a k
    by_cases hlt : k < 256
    · have hn : (a + (k : Int)) % 256 = P.nth a k := rfl
      by_cases hB : P.isB (P.nth a k) = true
      · have hnew := Lib.hid (fun j => P.ltr_new a k j hlt hB)
        have hsz := P.ltr_size a k
        have hl1 := P.letter_size _ hnb.1 hB
        obtain ⟨wo, rfl⟩ : ∃ wo : World, wo = wr := ⟨_, rfl⟩
        have hC0 : (P.color (P.nth a k) == 0) = true ∨ (P.color (P.nth a k) == 0) = false := by cases (P.color (P.nth a k) == 0) <;> simp
        have h1cnt : P.cnt a (k + 1) = P.cnt a k + 1 := by rw [P.cnt, hB]; rfl
        have h1ltr : P.ltr a (k + 1) = P.ltr a k ++ P.letter (P.nth a k) := by rw [P.ltr, hB]; rfl
        have h1wht : P.wht a (k + 1) = P.wht a k + if P.color (P.nth a k) == 0 then 1 else 0 := by rw [P.wht, hB, Bool.true_and]
        have H1 := Lib.hid (And.intro h1cnt (And.intro h1ltr h1wht))
        clear h1cnt h1ltr h1wht
        have Hb := Lib.hid hb
        clear hb
        rcases hC0 with hC | hC
        all_goals
          go_wp2_with (first | (go_at_call 12; refine (is_any _ _ (by omega) (by omega)).mono ?_; rintro e w' ⟨rfl, rfl⟩) | (go_at_call 14; refine (color_any _ _ (by omega) (by omega)).mono ?_; rintro e w' ⟨rfl, rfl⟩))
          go_loopw [8] (fun q wy => ∃ j : Nat, j ≤ P.cnt a k ∧ q = .int .i64 (j : Int) ∧ Below w.heap.size w wy) (fun q _ => P.cnt a k - (intOf q).toNat)
          case atStart => exact ⟨0, by omega, rfl, Hb.out⟩
          case round =>
            obtain ⟨j, hj, rfl, hbr⟩ := hrel
            by_cases hjl : j < P.cnt a k
            · have hx := hnew.out j
              have hsl : ∀ wx, (Instr.slice 9 (.string (P.ltr a k)) (some (.int .i64 (j : Int))) (some (.int .i64 ((j : Int) + 1))) none).run Try.prog wx = .ok (.string ((P.ltr a k).extract j (j + 1))) wx := fun wx => run_slice_string (P := Try.prog) wx 9 (P.ltr a k) .i64 .i64 j (j + 1) Try.underlying9 (by omega) (by omega) (by omega)
              have hw : IntKind.i64.wrap ((j : Int) + 1) = (j : Int) + 1 := IntWalk.i64_in _ (by omega)
              go_wp2
              go_quiet ((go_at_call 21; exact quiet_same (letter_any _ _ hnb.1 hnb.2)))
              clear hw
              go_wp2
              exact ⟨⟨j + 1, by omega, by go_num, below_drewN hbr _⟩, by simp [intOf]; omega⟩
            · obtain rfl : j = P.cnt a k := by omega
              go_wp2_with (first | (go_at_call 21; refine (letter_any _ _ (by omega) (by omega)).mono ?_; rintro e w' ⟨rfl, rfl⟩))
              obtain ⟨e1, e2, e3⟩ := H1.out
              rw [hC] at e3
              exact ⟨⟨k + 1, by omega, by go_num, by rw [e1]; go_num, by rw [e3]; go_num, by rw [e2], hbr⟩, by simp [intOf]; omega⟩
      · have hB : P.isB (P.nth a k) = false := by simpa using hB
        go_wp2_with (first | (go_at_call 12; refine (is_any _ _ (by omega) (by omega)).mono ?_; rintro e w' ⟨rfl, rfl⟩))
        have e1 : P.cnt a (k + 1) = P.cnt a k := by rw [P.cnt, hB]; rfl
        have e2 : P.ltr a (k + 1) = P.ltr a k := by rw [P.ltr, hB]; rfl
        have e3 : P.wht a (k + 1) = P.wht a k := by rw [P.wht, hB]; rfl
        exact ⟨⟨k + 1, by omega, by go_num, by rw [e1], by rw [e3], by rw [e2], hb⟩, by simp [intOf]; omega⟩
    · obtain rfl : k = 256 := by omega
      have hs := P.ltr_size a 256
      obtain ⟨e1, e2⟩ := hall.out
      rw [e1] at hs
      go_wp2
      go_ret
      exact ⟨rfl, hb⟩

end Go.Proofs.Ythnmbjolljpkaaa
