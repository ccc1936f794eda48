/- The document's squares: files, ranks, texts. -/
import Derived.Test.YtldpejeodhkgdaaMvC
namespace Go.Proofs.Ytldpejeodhkgdaa
open Go.RowKit Go.Sort
attribute [local go_sem] Oper.semAt_some

theorem d02file_any (s : Nat) (w : World) (hs : s < 64) : Calls Try.prog 26 #[.int .i64 (s : Int)] w fun e w' => e = .returned (.int .i64 ((s % 8 : Nat) : Int)) ∧ w = w' := by
  go_enter Try.func26, Try.ntmps26
  go_wp2
  go_loopw [0] (fun v wr => ∃ n : Nat, n ≤ s ∧ n % 8 = s % 8 ∧ v = .int .i64 (n : Int) ∧ wr = w) (fun v _ => (intOf v).toNat)
  case atStart => exact ⟨s, Nat.le_refl _, rfl, rfl, rfl⟩
  case round =>
    obtain ⟨n, hn, hm, rfl, rfl⟩ := hrel
    by_cases h : 8 ≤ n
    · have hw : IntKind.i64.wrap ((n : Int) - 8) = (n : Int) - 8 := by rw [IntKind.wrap_i64]; omega
      have HM := Lib.hid hm
      clear hm
      go_wp2
      exact ⟨⟨n - 8, by omega, by have := HM.out; omega, by go_num, trivial⟩, by simp [intOf]; omega⟩
    · have HM := Lib.hid hm
      clear hm
      go_wp2
      go_ret
      exact ⟨ret_int (by have := HM.out; omega), rfl⟩
theorem d02rank_any (s : Nat) (w : World) (hs : s < 64) : Calls Try.prog 27 #[.int .i64 (s : Int)] w fun e w' => e = .returned (.int .i64 ((s / 8 : Nat) : Int)) ∧ w = w' := by
  go_enter Try.func27, Try.ntmps27
  go_wp2
  go_loopw [0, 3] (fun v k wr => ∃ n q : Nat, n ≤ s ∧ n + 8 * q = s ∧ v = .int .i64 (n : Int) ∧ k = .int .i64 (q : Int) ∧ wr = w) (fun v _ _ => (intOf v).toNat)
  case atStart => exact ⟨s, 0, Nat.le_refl _, by omega, rfl, rfl, rfl⟩
  case round =>
    obtain ⟨n, q, hn, hm, rfl, rfl, rfl⟩ := hrel
    by_cases h : 8 ≤ n
    · have hw : IntKind.i64.wrap ((n : Int) - 8) = (n : Int) - 8 := by rw [IntKind.wrap_i64]; omega
      have hw2 : IntKind.i64.wrap ((q : Int) + 1) = (q : Int) + 1 := by rw [IntKind.wrap_i64]; omega
      have HM := Lib.hid hm
      clear hm
      go_wp2
      exact ⟨⟨n - 8, q + 1, by omega, by have := HM.out; omega, by go_num, by go_num, trivial⟩, by simp [intOf]; omega⟩
    · have HM := Lib.hid hm
      clear hm
      go_wp2
      go_ret
      exact ⟨ret_int (by have := HM.out; omega), rfl⟩
theorem exec_cut (ev : Operand → Value) (o : Oper) (x y z : Operand) (s : ByteArray) (a b : Nat) (w : World) (ho : o.op = .slice 9 x (some y) (some z) none) (hx : ev x = .string s) (hy : ev y = .int .i64 (a : Int)) (hz : ev z = .int .i64 (b : Int)) (h1 : a ≤ b) (h2 : b ≤ s.size) :
    (execOp ev o).run Try.prog w = .ok (.value (.string (s.extract a b))) w := by
  unfold execOp
  simp only [ho, hx, hy, hz, Option.map]
  have e1 : (0 : Int) ≤ (a : Int) := by omega
  have e2 : (a : Int) ≤ (b : Int) := by omega
  have e3 : (b : Int) ≤ (s.size : Int) := by omega
  simp [go_sem, e1, e2, e3]
/-- A text cut out of a text, in a region that draws. -/
theorem quiet_cut {S : World → Prop} {K : Act → Prop} {a : Act} {o : Oper} (x y z : Operand) (ho : o.op = .slice 9 x (some y) (some z) none)
    (h : ∃ (s : ByteArray) (i j : Nat), a.eval x = .string s ∧ a.eval y = .int .i64 (i : Int) ∧ a.eval z = .int .i64 (j : Int) ∧ (i ≤ j ∧ j ≤ s.size ∧ s.size ≤ 9223372036854775807) ∧ K (a.put o.dst (.string (s.extract i j)))) : o.quiet Try.prog a S K := by
  obtain ⟨s, i, j, hx, hy, hz, ⟨h1, h2, _⟩, hk⟩ := h
  refine ⟨_, fun w' _ => ?_, hk⟩
  unfold Oper.quietAt
  simp only [exec_cut a.eval o x y z s i j w' ho hx hy hz h1 h2]
  exact ⟨rfl, rfl⟩
namespace N
def files : ByteArray := ⟨#[97, 98, 99, 100, 101, 102, 103, 104]⟩
def ranks : ByteArray := ⟨#[49, 50, 51, 52, 53, 54, 55, 56]⟩
theorem cut_tx : ∀ s : Fin 64, files.extract (s.val % 8) (s.val % 8 + 1) ++ ranks.extract (s.val / 8) (s.val / 8 + 1) = tx s.val := by decide +kernel
end N
set_option maxRecDepth 100000 in
set_option maxHeartbeats 1000000 in
theorem d02text_any (s : Nat) (w : World) (hs : s < 64) : Calls Try.prog 14 #[.int .i64 (s : Int)] w fun e w' => e = .returned (.string (N.tx s)) ∧ Below w.heap.size w w' := by
  have HF : Hid (∀ W, Calls Try.prog 26 #[.int .i64 (s : Int)] W fun e w' => e = .returned (.int .i64 ((s % 8 : Nat) : Int)) ∧ W = w') := Lib.hid (fun W => d02file_any s W hs)
  have HR : Hid (∀ W, Calls Try.prog 27 #[.int .i64 (s : Int)] W fun e w' => e = .returned (.int .i64 ((s / 8 : Nat) : Int)) ∧ W = w') := Lib.hid (fun W => d02rank_any s W hs)
  have hE := N.cut_tx ⟨s, hs⟩
  simp only at hE
  obtain ⟨f, hf⟩ : ∃ f, s % 8 = f := ⟨_, rfl⟩
  obtain ⟨r, hr⟩ : ∃ f, s / 8 = f := ⟨_, rfl⟩
  have hf8 : f < 8 := by omega
  have hr8 : r < 8 := by omega
  rw [hf] at HF hE
  rw [hr] at HR hE
  have w1 : IntKind.i64.wrap ((f : Int) + 1) = ((f + 1 : Nat) : Int) := by rw [IntKind.wrap_i64]; omega
  have w2 : IntKind.i64.wrap ((r : Int) + 1) = ((r + 1 : Nat) : Int) := by rw [IntKind.wrap_i64]; omega
  have C1 := Lib.hid (show f ≤ f + 1 ∧ f + 1 ≤ N.files.size ∧ N.files.size ≤ 9223372036854775807 from by have : N.files.size = 8 := rfl; omega)
  have C2 := Lib.hid (show r ≤ r + 1 ∧ r + 1 ≤ N.ranks.size ∧ N.ranks.size ≤ 9223372036854775807 from by have : N.ranks.size = 8 := rfl; omega)
  have S1 := Lib.hid (show (N.files.extract f (f + 1)).size + (N.ranks.extract r (r + 1)).size ≤ 9223372036854775807 from by rw [ByteArray.size_extract, ByteArray.size_extract]; omega)
  have HE := Lib.hid hE
  clear hE hf hr hf8 hr8
  go_enter Try.func14, Try.ntmps14
  go_upto_region 3 with fail
  refine region_below (by kernel_rfl) (by kernel_rfl) ?_
  try simp only [Act.put]
  repeat (first
    | (go_big_quiet_want; refine quiet_cut _ _ _ rfl ⟨N.files, f, f + 1, rfl, rfl, rfl, C1.out, ?_⟩; simp only [Act.put, List.setIfInBounds_toArray, List.set_cons_succ, List.set_cons_zero]; go_big_quiet_on)
    | (go_big_quiet_want; refine quiet_cut _ _ _ rfl ⟨N.ranks, r, r + 1, rfl, rfl, rfl, C2.out, ?_⟩; simp only [Act.put, List.setIfInBounds_toArray, List.set_cons_succ, List.set_cons_zero]; go_big_quiet_on)
    | (go_big_quiet_want; refine quiet_cat _ _ _ rfl ⟨_, _, rfl, rfl, S1.out, ?_⟩; simp only [Act.put, List.setIfInBounds_toArray, List.set_cons_succ, List.set_cons_zero]; go_big_quiet_on)
    | go_big_quiet_step (first
      | (go_at_call 26; (with_reducible exact quiet_below_same (HF.out _)))
      | (go_at_call 27; (with_reducible exact quiet_below_same (HR.out _)))))
  refine wpQuiet_nil ?_
  intro w3 hb3
  go_wp2
  go_ret
  exact ⟨by rw [← HE.out]; rfl, hb3⟩
theorem i8_i64 {s : Nat} (hs : s < 64) : IntKind.i64.wrap (s : Int) = (s : Int) := by rw [IntKind.wrap_i64]; omega
theorem d11two_any (f g : Nat) (w : World) (hf : f < 64) (hg : g < 64) : Calls Try.prog 30 #[.int .i8 (f : Int), .int .i8 (g : Int)] w fun e w' => e = .returned (.string (N.two f g)) ∧ Below w.heap.size w w' := by
  have HF : Hid (∀ W, Calls Try.prog 14 #[.int .i64 (f : Int)] W fun e w' => e = .returned (.string (N.tx f)) ∧ Below W.heap.size W w') := Lib.hid (fun W => d02text_any f W hf)
  have HG : Hid (∀ W, Calls Try.prog 14 #[.int .i64 (g : Int)] W fun e w' => e = .returned (.string (N.tx g)) ∧ Below W.heap.size W w') := Lib.hid (fun W => d02text_any g W hg)
  have w1 := i8_i64 hf
  have w2 := i8_i64 hg
  have E := Lib.hid (N.tx_two f g)
  have S1 : (N.tx f).size + (N.tx g).size ≤ 9223372036854775807 := (by decide : 2 + 2 ≤ 9223372036854775807)
  obtain ⟨S, hS⟩ : ∃ S, N.two f g = S := ⟨_, rfl⟩
  obtain ⟨a, ha⟩ : ∃ S, N.tx f = S := ⟨_, rfl⟩
  obtain ⟨b, hb⟩ : ∃ S, N.tx g = S := ⟨_, rfl⟩
  rw [ha] at HF
  rw [hb] at HG
  rw [ha, hb, hS] at E
  rw [ha, hb] at S1
  rw [hS]
  clear ha hb hS
  go_enter Try.func30, Try.ntmps30
  go_wp2_with (first
    | (go_at_call 14; (with_reducible refine (HF.out _).mono ?_); rintro e wa ⟨rfl, hba⟩)
    | (go_at_call 14; (with_reducible refine (HG.out _).mono ?_); rintro e wb ⟨rfl, hbb⟩))
  go_ret
  exact ⟨by rw [← E.out]; rfl, below_next hba hbb⟩
end Go.Proofs.Ytldpejeodhkgdaa
