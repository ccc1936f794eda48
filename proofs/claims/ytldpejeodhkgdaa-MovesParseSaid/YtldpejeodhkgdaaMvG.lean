/- The program's package moves: two squares are read. -/
import Derived.Test.YtldpejeodhkgdaaMvE
import Derived.Test.YtldpejeodhkgdaaSqB
namespace Go.Proofs.Ytldpejeodhkgdaa
open Go.RowKit Go.Sort
attribute [local go_sem] Oper.semAt_some

namespace N
theorem sqP_one {t : ByteArray} {n m : Int} {x y : Bool} (h : SqP t n x) (h' : SqP t m y) : n = m ∧ x = y := by
  rcases h with ⟨rfl, s, hs, rfl, rfl⟩ | ⟨rfl, rfl, hn⟩
  · rcases h' with ⟨rfl, u, hu, rfl, e⟩ | ⟨rfl, rfl, hn'⟩
    · obtain ⟨e1, e2⟩ := tx_two' e
      have := sq_inj hs hu e1 e2
      exact ⟨by rw [this], rfl⟩
    · exact absurd rfl (hn' s hs)
  · rcases h' with ⟨rfl, u, hu, rfl, e⟩ | ⟨rfl, rfl, hn'⟩
    · exact absurd e (hn u hu)
    · exact ⟨rfl, rfl⟩
theorem sqP_any (t : ByteArray) : ∃ n x, SqP t n x := by
  by_cases h : ∃ s, s < 64 ∧ t = tx s
  · obtain ⟨s, hs, e⟩ := h
    exact ⟨s, true, .inl ⟨rfl, s, hs, rfl, e⟩⟩
  · exact ⟨0, false, .inr ⟨rfl, rfl, fun s hs e => h ⟨s, hs, e⟩⟩⟩
theorem sqP_bd {t : ByteArray} {n : Int} {x : Bool} (h : SqP t n x) : 0 ≤ n ∧ n < 64 := by
  rcases h with ⟨_, s, hs, rfl, _⟩ | ⟨_, rfl, _⟩ <;> omega
end N
theorem sqparse_eq (t : ByteArray) (n : Int) (x : Bool) (h : N.SqP t n x) (w : World) : Calls Try.prog 21 #[.string t] w fun e w' => e = .returned (.tuple #[.int .i64 n, .bool x]) ∧ Below w.heap.size w w' := by
  refine (sqparse_any t w).mono ?_
  rintro e w' ⟨⟨m, y, rfl, hP⟩, hb⟩
  obtain ⟨rfl, rfl⟩ := N.sqP_one h hP
  exact ⟨rfl, hb⟩
set_option maxRecDepth 100000 in
set_option maxHeartbeats 1000000 in
theorem mvtwo_fix (s : ByteArray) (hs : s.size ≤ 9223372036854775807) : ∃ (n m : Int) (ok : Bool), N.TwoR s n m ok ∧ (0 ≤ n ∧ n < 64) ∧ (0 ≤ m ∧ m < 64) ∧ ∀ w, Calls Try.prog 16 #[.string s] w fun e w' => e = .returned (.tuple #[.int .i8 n, .int .i8 m, .bool ok]) ∧ Below w.heap.size w w' := by
  by_cases h4 : s.size < 4
  · refine ⟨0, 0, false, N.twoR_short h4, by omega, by omega, fun w => ?_⟩
    go_enter Try.func16, Try.ntmps16
    go_wp2
    go_ret3
    exact ⟨rfl, Below.refl _ _⟩
  · obtain ⟨n, x, hx⟩ := N.sqP_any (s.extract 0 2)
    obtain ⟨m, y, hy⟩ := N.sqP_any (s.extract 2 4)
    have hT := N.twoR_of (by omega) hx hy
    have hn := N.sqP_bd hx
    have hm := N.sqP_bd hy
    have HX := Lib.hid (fun W => sqparse_eq _ n x hx W)
    have HY := Lib.hid (fun W => sqparse_eq _ m y hy W)
    obtain ⟨k, hk⟩ : ∃ k, (x && (y && (n != m))) = k := ⟨_, rfl⟩
    refine ⟨n, m, k, by rw [← hk]; exact hT, hn, hm, fun w => ?_⟩
    have w1 : IntKind.i8.wrap n = n := by unfold IntKind.wrap; simp only [IntKind.bits, IntKind.signed]; simp; omega
    have w2 : IntKind.i8.wrap m = m := by unfold IntKind.wrap; simp only [IntKind.bits, IntKind.signed]; simp; omega
    have HE := Lib.hid hk
    clear hT hx hy hn hm hk
    obtain ⟨b, hb⟩ : ∃ b, (n != m) = b := ⟨_, rfl⟩
    rw [hb] at HE
    cases x <;> cases y
    all_goals
      go_enter Try.func16, Try.ntmps16
      go_wp2_with (first
        | (go_at_call 21; (with_reducible refine (HX.out _).mono ?_); rintro e wa ⟨rfl, hba⟩; have HA := Lib.hid hba; clear hba)
        | (go_at_call 21; (with_reducible refine (HY.out _).mono ?_); rintro e wb ⟨rfl, hbb⟩; have HB := Lib.hid hbb; clear hbb))
      go_ret3
      exact ⟨by rw [← HE.out]; first | rfl | (rw [hb]; rfl), below_next HA.out HB.out⟩
end Go.Proofs.Ytldpejeodhkgdaa
