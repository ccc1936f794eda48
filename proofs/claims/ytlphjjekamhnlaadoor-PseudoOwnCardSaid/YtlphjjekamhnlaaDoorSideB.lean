/- The program's package pseudo: where a pawn may go. -/
import Derived.Test.YtlphjjekamhnlaaDoorSideA
namespace Go.Proofs.YtlphjjekamhnlaaDoor
open Go.RowKit Go.Sort
attribute [local go_sem] Oper.semAt_some

namespace Z
def pout (c : Nat → Int) (h : BitVec 64) (s : Nat) : BitVec 64 := bAnd (R.pawn (c 78) (s : Int)) (bOr h (passing c))
def one (t s : Nat) : Nat := (ahead t (s : Int)).toNat
def from2 (c : Nat → Int) (r : Nat) : Bool := decide (r = 1) || (decide (r = 0) && (decide (c 0 = 7) && decide (c 78 = 0)))
/-- Where a pawn may go. -/
def pawn (c : Nat → Int) (o h : BitVec 64) (t s : Nat) : BitVec 64 :=
  if rank t s = 7 then pout c h s
  else if bit (bOr o h) (one t s) = true then pout c h s
  else if from2 c (rank t s) = true then bOr (bOr (pout c h s) (B.one (one t s : Nat))) (bAndn (B.one (one t (one t s) : Nat)) (bOr o h))
  else bOr (pout c h s) (B.one (one t s : Nat))
theorem ahead_one (t s : Nat) (hs : s < 64) (hr : rank t s ≠ 7) : ahead t (s : Int) = ((one t s : Nat) : Int) ∧ one t s < 64 := by
  unfold one ahead rank at *
  split at hr <;> simp_all <;> omega
theorem ahead_two (t s : Nat) (hs : s < 64) (hr : rank t s ≤ 1) : ahead t ((one t s : Nat) : Int) = ((one t (one t s) : Nat) : Int) ∧ one t (one t s) < 64 := by
  unfold one ahead rank at *
  split at hr <;> simp_all <;> omega
end Z
theorem quiet_load_rowZ {P : Program} {C : World → Prop} {K : Act → Prop} {a : Act} {o : Oper} (ty : TypeId) (x : Operand) (ho : o.op = .load ty x) (cs : Array Value) {d : TypeDesc} (hu : P.underlying ty = some d) (hd : (match d with | .struct _ | .array _ _ => true | _ => false) = true) (hi : (P.info? ty).map (·.size) = some cs.size)
    (hx : ∃ g t fr, a.eval x = .pointer (some ⟨g, 0, none⟩) ∧ ∀ w, C w → w.heap[g]? = some (.cells cs t fr)) (hk : K (a.put o.dst (.agg cs))) : o.quiet P a C K := by
  obtain ⟨g, t, fr, h1, hg⟩ := hx
  refine ⟨.agg cs, fun w hw => ?_, hk⟩
  unfold Oper.quietAt execOp
  simp only [ho, h1, Instr.loadAt, Instr.sureAddr, Sem.run_bind, Sem.run_pure, Result.andThen_ok, run_loadVar_row w g t ty cs fr d (hg w hw) hu hd hi]
  exact ⟨rfl, rfl⟩
set_option maxRecDepth 100000 in
set_option maxHeartbeats 8000000 in
theorem zpawn_any (c : Nat → Int) (o h : BitVec 64) (t s : Nat) (w : World) (hc : PosOk c) (hs : s < 64) (ht : c 78 = (t : Int)) (ht1 : t ≤ 1) :
    Calls Tryd.prog 85 #[.agg (Z.sd c o h), .int .i64 (s : Int)] w fun e w' => e = .returned (.int .u64 (U (Z.pawn c o h t s))) ∧ Below w.heap.size w w' := by
  have hp := RowAt.new w (Z.sd c o h) 51
  have hb0 : Below w.heap.size w (w.alloc (.cells (Z.sd c o h) 51)) := (Below.refl _ _).alloc (Nat.le_refl _) _
  obtain ⟨W, hW⟩ : ∃ W, w.alloc (.cells (Z.sd c o h) 51) = W := ⟨_, rfl⟩
  have Hc := Lib.hid hc
  obtain ⟨v0, v1⟩ := pos_u8 hc (i := 0) (by decide) rfl
  obtain ⟨v, hv⟩ : ∃ v : Nat, c 0 = (v : Int) := ⟨(c 0).toNat, by omega⟩
  rw [hW] at hp hb0
  have l3 := hp.lt
  have hheap := hp.heap
  have hown := (hp.cell 88).trans (Z.sd_own c o h)
  have hoth := (hp.cell 89).trans (Z.sd_oth c o h)
  have h78 := (hp.cell 78).trans (Z.sd_pos c o h 78 (by decide))
  rw [show pk 78 = .u8 from rfl, ht] at h78
  go_enter Tryd.func85, Tryd.ntmps85
  go_wp2_with fail
  refine region_below (by kernel_rfl) (by kernel_rfl) ?_
  repeat (first
    | (refine BigFrame.wpQuiet_want rfl (fun Kq hKq => quiet_load_rowZ 51 _ rfl (Z.sd c o h) Tryd.underlying51 rfl (Z.info _ _ _) ⟨_, _, _, rfl, fun w' ⟨p, e⟩ => (by rw [e, heap_grow _ _ _ _ l3]; exact hheap)⟩ (hKq _ ?_)))
    | quiet_step (first
      | (go_at_call 116; exact quiet_below (passing_any c _ _ _ Hc.out))
      | (go_at_call 115; exact quiet_below (pawn_any _ _ _))))
  refine wpQuiet_nil ?_
  intro W' hb'
  have hp2 := hp.below hb'
  have hb2 := below_next hb0 hb'
  clear hown hoth h78 hp hheap hb0 hb' l3 hW
  have hown := (hp2.cell 88).trans (Z.sd_own c o h)
  have hoth := (hp2.cell 89).trans (Z.sd_oth c o h)
  have h0 := (hp2.cell 0).trans (Z.sd_pos c o h 0 (by decide))
  rw [show pk 0 = .u8 from rfl, hv] at h0
  obtain ⟨r, hr⟩ : ∃ r, Z.rank t s = r := ⟨_, rfl⟩
  have HR : Hid (∀ (w : World) (T : Int), T = (t : Int) → Calls Tryd.prog 91 #[.int .u8 T, .int .i64 (s : Int)] w fun e w' => e = .returned (.int .i64 (r : Int)) ∧ w = w') := Lib.hid (fun w T e => by rw [e, ← hr]; exact rank_any t s w hs)
  obtain ⟨X, hX⟩ : ∃ X, bAnd (R.pawn (t : Int) (s : Int)) (bOr h (Z.passing c)) = X := ⟨_, rfl⟩
  rw [hX]
  have hXp : Z.pout c h s = X := by unfold Z.pout; rw [ht]; exact hX
  have Hb := Lib.hid hb2
  have HP : Hid (Z.pawn c o h t s = if r = 7 then X else if bit (bOr o h) (Z.one t s) = true then X else if Z.from2 c r = true then bOr (bOr X (B.one (Z.one t s : Nat))) (bAndn (B.one (Z.one t (Z.one t s) : Nat)) (bOr o h)) else bOr X (B.one (Z.one t s : Nat))) := Lib.hid (by unfold Z.pawn; rw [hr, hXp])
  clear hXp hX hb2 hp2
  by_cases h7 : r = 7
  · have H7 := Lib.hid h7
    have d7 : ((r : Int) == 7) = true := by simp; omega
    clear h7 hr
    go_wp2_with (go_at_call 91; refine (HR.out _ _ (by first | rfl | omega)).mono ?_; rintro e w' ⟨rfl, rfl⟩)
    go_ret
    exact ⟨ret_int (by rw [HP.out, if_pos H7.out]), Hb.out⟩
  · have hr7 := h7
    have H7 := Lib.hid h7
    have d7 : ((r : Int) == 7) = false := by simp; omega
    obtain ⟨ha, hn⟩ := Z.ahead_one t s hs (by rw [hr]; exact h7)
    have HA2 := Lib.hid (Z.ahead_two t s hs)
    obtain ⟨n, hne⟩ : ∃ n, Z.one t s = n := ⟨_, rfl⟩
    rw [hne] at ha hn HP HA2
    have HA : Hid (∀ (w : World) (T : Int), T = (t : Int) → Calls Tryd.prog 62 #[.int .u8 T, .int .i64 (s : Int)] w fun e w' => e = .returned (.int .i64 (n : Int)) ∧ w = w') := Lib.hid (fun w T e => by rw [e, ← ha]; exact ahead_any t s w (by omega) (by omega))
    have hwn : IntKind.u64.wrap (n : Int) = n := by rw [IntKind.wrap_u64]; omega
    have hone := B.one_val (n : Int) (by omega) (by omega)
    have hdiv : U (bOr o h) / 2 ^ n = U (bShr (bOr o h) n) := by have := bv_shr_nat (bOr o h) n; rwa [Nat.min_eq_left (by omega)] at this
    have hsh : bit (bShr (bOr o h) n) 0 = bit (bOr o h) n := by rw [bit_shr, Nat.add_zero]
    simp only [Int.toNat_natCast] at hone
    clear h7 ha hne
    by_cases hbt : bit (bOr o h) n = true
    · have hq : (bv1 (bit (bShr (bOr o h) n) 0) == 1) = true := by rw [hsh, hbt]; rfl
      have Hbt := Lib.hid hbt
      clear hsh hbt hr hr7
      go_wp2_with (first | (go_at_call 91; refine (HR.out _ _ (by first | rfl | omega)).mono ?_; rintro e w' ⟨rfl, rfl⟩) | (go_at_call 62; with_reducible refine (HA.out _ _ (by first | rfl | omega)).mono ?_; rintro e w' ⟨rfl, rfl⟩))
      go_ret
      exact ⟨ret_int (by rw [HP.out, if_neg H7.out, if_pos Hbt.out]), Hb.out⟩
    · have hq : (bv1 (bit (bShr (bOr o h) n) 0) == 1) = false := by rw [hsh, Bool.not_eq_true _ |>.mp hbt]; rfl
      have Hbt := Lib.hid hbt
      clear hsh hbt
      by_cases h1 : r = 1
      · have d1 : ((r : Int) == 1) = true := by simp; omega
        have HF := Lib.hid (show Z.from2 c r = true by unfold Z.from2; rw [hv, ht]; simp; omega)
        obtain ⟨hb1, hm⟩ := HA2.out (by rw [hr]; omega)
        obtain ⟨m, hme⟩ : ∃ m, Z.one t n = m := ⟨_, rfl⟩
        rw [hme] at hb1 hm HP
        have HB : Hid (∀ (w : World) (T : Int), T = (t : Int) → Calls Tryd.prog 62 #[.int .u8 T, .int .i64 (n : Int)] w fun e w' => e = .returned (.int .i64 (m : Int)) ∧ w = w') := Lib.hid (fun w T e => by rw [e, ← hb1]; exact ahead_any t n w (by omega) (by omega))
        have hwm : IntKind.u64.wrap (m : Int) = m := by rw [IntKind.wrap_u64]; omega
        have hone2 := B.one_val (m : Int) (by omega) (by omega)
        simp only [Int.toNat_natCast] at hone2
        clear hr hr7 hme hb1
        go_wp2_with (first | (go_at_call 91; refine (HR.out _ _ (by first | rfl | omega)).mono ?_; rintro e w' ⟨rfl, rfl⟩) | (go_at_call 62; with_reducible refine (HA.out _ _ (by first | rfl | omega)).mono ?_; rintro e w' ⟨rfl, rfl⟩) | (go_at_call 62; with_reducible refine (HB.out _ _ (by first | rfl | omega)).mono ?_; rintro e w' ⟨rfl, rfl⟩))
        go_ret
        exact ⟨ret_int (by rw [HP.out, if_neg H7.out, if_neg Hbt.out, if_pos HF.out]), Hb.out⟩
      · have d1 : ((r : Int) == 1) = false := by simp; omega
        by_cases h0r : r = 0
        · have d0 : ((r : Int) == 0) = true := by simp; omega
          by_cases hv7 : v = 7
          · have dv : ((v : Int) == 7) = true := by simp; omega
            by_cases ht0 : t = 0
            · have dt : ((t : Int) == 0) = true := by simp; omega
              have HF := Lib.hid (show Z.from2 c r = true by unfold Z.from2; rw [hv, ht]; simp; omega)
              obtain ⟨hb1, hm⟩ := HA2.out (by rw [hr]; omega)
              obtain ⟨m, hme⟩ : ∃ m, Z.one t n = m := ⟨_, rfl⟩
              rw [hme] at hb1 hm HP
              have HB : Hid (∀ (w : World) (T : Int), T = (t : Int) → Calls Tryd.prog 62 #[.int .u8 T, .int .i64 (n : Int)] w fun e w' => e = .returned (.int .i64 (m : Int)) ∧ w = w') := Lib.hid (fun w T e => by rw [e, ← hb1]; exact ahead_any t n w (by omega) (by omega))
              have hwm : IntKind.u64.wrap (m : Int) = m := by rw [IntKind.wrap_u64]; omega
              have hone2 := B.one_val (m : Int) (by omega) (by omega)
              simp only [Int.toNat_natCast] at hone2
              clear hr hr7 hme hb1
              go_wp2_with (first | (go_at_call 91; refine (HR.out _ _ (by first | rfl | omega)).mono ?_; rintro e w' ⟨rfl, rfl⟩) | (go_at_call 62; with_reducible refine (HA.out _ _ (by first | rfl | omega)).mono ?_; rintro e w' ⟨rfl, rfl⟩) | (go_at_call 62; with_reducible refine (HB.out _ _ (by first | rfl | omega)).mono ?_; rintro e w' ⟨rfl, rfl⟩))
              go_ret
              exact ⟨ret_int (by rw [HP.out, if_neg H7.out, if_neg Hbt.out, if_pos HF.out]), Hb.out⟩
            · have dt : ((t : Int) == 0) = false := by simp; omega
              have HF := Lib.hid (show ¬ Z.from2 c r = true by unfold Z.from2; rw [hv, ht]; simp; omega)
              clear hr hr7
              go_wp2_with (first | (go_at_call 91; refine (HR.out _ _ (by first | rfl | omega)).mono ?_; rintro e w' ⟨rfl, rfl⟩) | (go_at_call 62; with_reducible refine (HA.out _ _ (by first | rfl | omega)).mono ?_; rintro e w' ⟨rfl, rfl⟩))
              go_ret
              exact ⟨ret_int (by rw [HP.out, if_neg H7.out, if_neg Hbt.out, if_neg HF.out]), Hb.out⟩
          · have dv : ((v : Int) == 7) = false := by simp; omega
            have HF := Lib.hid (show ¬ Z.from2 c r = true by unfold Z.from2; rw [hv, ht]; simp; omega)
            clear hr hr7
            go_wp2_with (first | (go_at_call 91; refine (HR.out _ _ (by first | rfl | omega)).mono ?_; rintro e w' ⟨rfl, rfl⟩) | (go_at_call 62; with_reducible refine (HA.out _ _ (by first | rfl | omega)).mono ?_; rintro e w' ⟨rfl, rfl⟩))
            go_ret
            exact ⟨ret_int (by rw [HP.out, if_neg H7.out, if_neg Hbt.out, if_neg HF.out]), Hb.out⟩
        · have d0 : ((r : Int) == 0) = false := by simp; omega
          have HF := Lib.hid (show ¬ Z.from2 c r = true by unfold Z.from2; rw [hv, ht]; simp; omega)
          clear hr hr7
          go_wp2_with (first | (go_at_call 91; refine (HR.out _ _ (by first | rfl | omega)).mono ?_; rintro e w' ⟨rfl, rfl⟩) | (go_at_call 62; with_reducible refine (HA.out _ _ (by first | rfl | omega)).mono ?_; rintro e w' ⟨rfl, rfl⟩))
          go_ret
          exact ⟨ret_int (by rw [HP.out, if_neg H7.out, if_neg Hbt.out, if_neg HF.out]), Hb.out⟩
end Go.Proofs.YtlphjjekamhnlaaDoor
