/- The laws of layer 8: AttackChecks. -/
import Derived.Test.YtdfgpbighadplaaDoorLaw08e
namespace Go.Proofs.YtdfgpbighadplaaDoor
open Go.RowKit Go.Sort

def bv1 (b : Bool) : Int := if b then 1 else 0
theorem bit_shr (x : BitVec 64) (k n : Nat) : bit (bShr x k) n = bit x (k + n) := by unfold bit bShr; rw [BitVec.getLsbD_ushiftRight]
@[go_sem] theorem and_one (x : BitVec 64) : bits .and .u64 (U x) 1 = bv1 (bit x 0) := by
  have h := bv_and x 1#64
  have e : U (1#64) = 1 := rfl
  rw [e] at h
  rw [h]
  unfold U bv1 bAnd
  rw [bit_test, BitVec.toNat_and]
  have : (1#64).toNat = 1 := rfl
  rw [this, Nat.and_one_is_mod, Nat.testBit_zero]
  rcases Nat.mod_two_eq_zero_or_one x.toNat with h | h <;> rw [h] <;> rfl

theorem check_royal (c : Nat → Int) (color : Int) (h : V.royal (c 0) color = false) : K.check c color = false := by
  unfold K.check K.kingOk; rw [h]; rfl
theorem checkers_royal (c : Nat → Int) (h : V.royal (c 0) (c 78) = false) : K.checkers c = 0#64 := by
  unfold K.checkers K.kingOk; rw [h]; rfl
theorem check_checkers (c : Nat → Int) : K.check c (c 78) = (U (K.checkers c) != 0) := by
  unfold K.check K.checkers K.on
  cases K.kingOk c (c 78) <;> rfl
theorem bit_checkers (c : Nat → Int) (a : Nat) (hc : BdOk c) (ha : a < 64) (h0 : 0 ≤ c 78) (hl : lawB c = true) (h : bit (K.checkers c) a = true) : (c (1 + a) == 0) = false ∧ (c (1 + a) / 8 == c 78) = false := by
  unfold K.checkers at h
  cases hk : K.kingOk c (c 78)
  · rw [hk, if_neg (by simp), bit_zero] at h; cases h
  · rw [hk, if_pos rfl] at h
    have hcol := kingOk_color c _ hk
    obtain ⟨h1, h2⟩ := king_eq c (c 78) hc h0
    rw [hk] at h1
    have hs : K.there (K.kingAt c (c 78)) = true := by
      cases ht : K.there (K.kingAt c (c 78))
      · unfold K.by at h
        rw [ht, if_neg (by simp), bit_zero] at h; cases h
      · rfl
    obtain ⟨n, hn, hn64, _⟩ := there_nat _ hs
    rw [hn] at h
    have hoc : K.oc (c 78) = 1 - c 78 := by unfold K.oc; omega
    rw [hoc, bit_by c a n _ hc ha hn64 (by omega) (by omega), lawful_k c hc hl a ha, Bool.and_eq_true, Bool.and_eq_true] at h
    obtain ⟨g1, g2, _⟩ := h
    refine ⟨by simpa using g1, ?_⟩
    have g3 : c (1 + a) / 8 = 1 - c 78 := by simpa [D.color] using g2
    simp; omega

def rC : Nat → Int := upd (upd (upd (upd noneC 0 3) 28 6) 29 14) 4 13
theorem rC_bd : BdOk rC := fun s hs => (show ∀ s : Fin 64, 0 ≤ rC (1 + s.val) ∧ rC (1 + s.val) ≤ 255 by decide +kernel) ⟨s, hs⟩
theorem rC0 : K.check rC 0 = false := by decide +kernel
theorem rC1 : K.check rC 1 = false := by decide +kernel

set_option maxRecDepth 100000 in
set_option maxHeartbeats 2000000 in
theorem attackChecks_walk (c : Nat → Int) (w : World) (hc : PosOk c) (hT : Tb w) :
    Calls Tryd.prog 9 #[.agg (posC c)] w fun e w' => e = .returned (.bool true) ∧ Below w.heap.size w w' := by
  have Hc := Lib.hid (pos_bd hc)
  have hv := (pos_u8 hc (i := 0) (by omega) rfl).1
  have ht := (pos_u8 hc (i := 78) (by omega) rfl).1
  have HT := Lib.hid (fun W (hb : Below w.heap.size w W) => tb_below hT hb)
  clear hT hc
  have hb0 : Below w.heap.size w (w.alloc (.cells (posC c) 31)) := (Below.refl _ _).alloc (Nat.le_refl _) _
  have hp := PosAt.new w c
  cases hl : lawB c
  · go_enter Tryd.func9, Tryd.ntmps9
    go_wp2_with (first
      | ((with_reducible refine wp_load_box rfl _ rfl ?_); refine ⟨_, _, rfl, (by assumption), ?_⟩)
      | (go_at_call 20; refine (lawful_eq c false _ Hc.out hl).mono ?_; rintro e u ⟨rfl, hb⟩; replace hp := hp.below hb; replace hb0 := below_next hb0 hb; clear hb)
      | (go_at_call 13; refine (awake08_any _ (HT.out _ hb0)).mono ?_; rintro e u ⟨rfl, hb⟩; replace hp := hp.below hb; replace hb0 := below_next hb0 hb; clear hb))
    go_ret
    exact ⟨rfl, hb0⟩
  · by_cases h1 : 1 < c 78
    · go_enter Tryd.func9, Tryd.ntmps9
      go_wp2_with (first
        | ((with_reducible refine wp_load_box rfl _ rfl ?_); refine ⟨_, _, rfl, (by assumption), ?_⟩)
        | (go_at_call 20; refine (lawful_eq c true _ Hc.out hl).mono ?_; rintro e u ⟨rfl, hb⟩; replace hp := hp.below hb; replace hb0 := below_next hb0 hb; clear hb; have hcl := hp.cell (i := 78) (by omega); change u.cell? _ = some (.int .u8 (c 78)) at hcl)
        | (go_at_call 13; refine (awake08_any _ (HT.out _ hb0)).mono ?_; rintro e u ⟨rfl, hb⟩; replace hp := hp.below hb; replace hb0 := below_next hb0 hb; clear hb))
      go_ret
      exact ⟨rfl, hb0⟩
    · have Hk := Lib.hid (check_checkers c)
      have Hbit := Lib.hid (fun a (ha : a < 64) => bit_checkers c a Hc.out ha ht hl)
      obtain ⟨v, hvv⟩ : ∃ v, K.checkers c = v := ⟨_, rfl⟩
      have hk2 : ((U v != 0) != (U v != 0)) = false := by simp
      go_enter Tryd.func9, Tryd.ntmps9
      go_wp2_with (first
        | ((with_reducible refine wp_load_box rfl _ rfl ?_); refine ⟨_, _, rfl, (by assumption), ?_⟩)
        | (go_at_call 20; refine (lawful_eq c true _ Hc.out hl).mono ?_; rintro e u ⟨rfl, hb⟩; replace hp := hp.below hb; replace hb0 := below_next hb0 hb; clear hb; have hcl := hp.cell (i := 78) (by omega); change u.cell? _ = some (.int .u8 (c 78)) at hcl)
        | (go_at_call 18; refine (checkers_val c v _ Hc.out (HT.out _ hb0) hv ht hvv).mono ?_; rintro e u ⟨rfl, hb⟩; replace hp := hp.below hb; replace hb0 := below_next hb0 hb; clear hb hcl; have hcl := hp.cell (i := 78) (by omega); change u.cell? _ = some (.int .u8 (c 78)) at hcl)
        | (go_at_call 16; refine (check_eq' c (c 78) (U v != 0) _ Hc.out (HT.out _ hb0) hv ht (by rw [Hk.out, hvv])).mono ?_; rintro e u ⟨rfl, hb⟩; replace hp := hp.below hb; replace hb0 := below_next hb0 hb; clear hb hcl; have hcl := hp.cell (i := 78) (by omega); change u.cell? _ = some (.int .u8 (c 78)) at hcl))
      have HW := Lib.hid hp
      have Hb0 := Lib.hid hb0
      clear hp hb0 hcl
      go_loopw [4] (fun i wr => ∃ k : Nat, k ≤ 64 ∧ i = .int .i64 (k : Int) ∧ PosAt wr w.heap.size c ∧ Below w.heap.size w wr) (fun i _ => 64 - (intOf i).toNat)
      case atStart => exact ⟨0, by omega, rfl, HW.out, Hb0.out⟩
      case round =>
        obtain ⟨k, hk, rfl, hp, hbr⟩ := hrel
        by_cases hlt : k < 64
        · have hcl := hp.bd hlt
          have hct := hp.cell (i := 78) (by omega)
          change wr.cell? _ = some (.int .u8 (c 78)) at hct
          obtain ⟨x0, x1⟩ := Hc.out k hlt
          have hw : IntKind.u64.wrap (k : Int) = k := by rw [IntKind.wrap_u64]; omega
          have hdiv : U v / 2 ^ k = U (bShr v k) := by have := bv_shr_nat v k; rwa [Nat.min_eq_left (by omega)] at this
          have hsh : bit (bShr v k) 0 = bit v k := by rw [bit_shr, Nat.add_zero]
          have hbk := Hbit.out k hlt
          rw [hvv] at hbk
          have hql : (c (1 + k)).tdiv 8 = c (1 + k) / 8 := Int.tdiv_eq_ediv_of_nonneg x0
          cases hbt : bit v k
          · have hq : (bv1 (bit (bShr v k) 0) == 1) = false := by rw [hsh, hbt]; rfl
            clear hbk hsh hbt
            go_wp2
            go_quiet (fail)
            go_wp2
            exact ⟨⟨k + 1, by omega, by go_num, hp.drewN _, below_drewN hbr _⟩, by simp [intOf]; omega⟩
          · have hq : (bv1 (bit (bShr v k) 0) == 1) = true := by rw [hsh, hbt]; rfl
            obtain ⟨hq1, hq2⟩ := hbk hbt
            clear hbk hsh hbt
            go_wp2
            go_quiet (fail)
            go_wp2
            exact ⟨⟨k + 1, by omega, by go_num, hp.drewN _, below_drewN hbr _⟩, by simp [intOf]; omega⟩
        · obtain rfl : k = 64 := by omega
          have hqb : BdOk (upd c 0 4) := bdOk_upd Hc.out 0 4 (by omega) (by omega)
          have hq0 : K.check (upd c 0 4) 0 = false := check_royal _ _ rfl
          have hq1 : K.check (upd c 0 4) 1 = false := check_royal _ _ rfl
          have hqt : 0 ≤ upd c 0 4 78 := ht
          have hqc : K.checkers (upd c 0 4) = 0#64 := checkers_royal _ (by unfold V.royal; simp [upd])
          have hq00 : 0 ≤ upd c 0 4 0 := by rw [upd_same]; decide
          have HB := Lib.hid (And.intro hqb (And.intro hq0 (And.intro hq1 (And.intro hqt hqc))))
          clear hqb hq0 hq1 hqt hqc hk hlt Hbit Hk hvv hk2
          have hz := hbr.size
          go_wp2_with (first
            | ((with_reducible refine wp_load_box rfl _ rfl ?_); refine ⟨_, _, rfl, (by assumption), ?_⟩)
            | ((with_reducible refine wp_store_box rfl _ _ rfl ?_); refine ⟨_, c, rfl, rfl, ⟨_, heap_alloc_new _ _, rfl⟩, ?_⟩; intro V hV hq; have hb0 := hV.below (hbr.alloc hz _) hz; clear hV hp hbr)
            | ((with_reducible refine wp_store_cell rfl _ _ _ rfl ?_); refine ⟨_, _, _, _, _, rfl, rfl, hq, (by omega), rfl, Tryd.size_u8, ?_⟩; intro V2 hV2 hq2; replace hb0 := hV2.below hb0 hz; clear hV2 hq)
            | fail)
          refine (none08_any _).mono ?_
          rintro e w2 ⟨rfl, hb2⟩
          have hlt2 := Nat.lt_of_lt_of_le hq2.lt hb2.size
          replace hq2 := hq2.below hb2
          replace hb0 := below_next hb0 hb2
          clear hb2
          have hz3 := hb0.size
          go_wp2_with (first
            | ((with_reducible refine wp_store_box rfl _ _ rfl ?_); refine ⟨_, noneC, rfl, rfl, ⟨_, heap_alloc_new _ _, rfl⟩, ?_⟩; intro V hV hr; replace hb0 := hV.below (hb0.alloc hz3 _) hz3; have hq3 := hV.pos (hq2.alloc _) (Nat.ne_of_lt hlt2); clear hV hq2; have hq2 := hq3; clear hq3)
            | ((with_reducible refine wp_store_cell rfl _ _ _ rfl ?_); refine ⟨_, _, _, _, _, rfl, rfl, hr, (by omega), rfl, Tryd.size_u8, ?_⟩; intro V hV hr2; replace hb0 := hV.below hb0 hz3; have hq3 := hV.pos hq2 (Nat.ne_of_lt hlt2); clear hV hr hq2; have hr := hr2; have hq2 := hq3; clear hr2 hq3)
            | ((with_reducible refine wp_load_box_g rfl _ rfl ?_); refine ⟨_, _, rfl, (by assumption), ?_⟩)
            | ((with_reducible refine wp_load_box rfl _ rfl ?_); refine ⟨_, _, rfl, (by assumption), ?_⟩)
            | fail)
          replace hr : PosAt _ _ rC := hr
          obtain ⟨hqb, hq0, hq1, hqt, hqc⟩ := HB.out
          refine (check_eq' _ 0 false _ hqb (HT.out _ hb0) hq00 (by decide) hq0).mono ?_
          rintro e u1 ⟨rfl, hb⟩
          replace hq2 := hq2.below hb
          replace hr := hr.below hb
          replace hb0 := below_next hb0 hb
          clear hb
          go_wp2_with (first | ((with_reducible refine wp_load_box_g rfl _ rfl ?_); refine ⟨_, _, rfl, (by assumption), ?_⟩) | ((with_reducible refine wp_load_box rfl _ rfl ?_); refine ⟨_, _, rfl, (by assumption), ?_⟩) | fail)
          refine (check_eq' _ 1 false _ hqb (HT.out _ hb0) hq00 (by decide) hq1).mono ?_
          rintro e u1 ⟨rfl, hb⟩
          replace hq2 := hq2.below hb
          replace hr := hr.below hb
          replace hb0 := below_next hb0 hb
          clear hb
          go_wp2_with (first | ((with_reducible refine wp_load_box_g rfl _ rfl ?_); refine ⟨_, _, rfl, (by assumption), ?_⟩) | ((with_reducible refine wp_load_box rfl _ rfl ?_); refine ⟨_, _, rfl, (by assumption), ?_⟩) | fail)
          refine (checkers_eq' _ _ 0 _ hqb (HT.out _ hb0) hq00 hqt hqc rfl).mono ?_
          rintro e u1 ⟨rfl, hb⟩
          replace hq2 := hq2.below hb
          replace hr := hr.below hb
          replace hb0 := below_next hb0 hb
          clear hb
          go_wp2_with (first | ((with_reducible refine wp_load_box_g rfl _ rfl ?_); refine ⟨_, _, rfl, (by assumption), ?_⟩) | ((with_reducible refine wp_load_box rfl _ rfl ?_); refine ⟨_, _, rfl, (by assumption), ?_⟩) | fail)
          refine (check_eq' rC 0 false _ rC_bd (HT.out _ hb0) (by decide) (by decide) rC0).mono ?_
          rintro e u1 ⟨rfl, hb⟩
          replace hq2 := hq2.below hb
          replace hr := hr.below hb
          replace hb0 := below_next hb0 hb
          clear hb
          go_wp2_with (first | ((with_reducible refine wp_load_box_g rfl _ rfl ?_); refine ⟨_, _, rfl, (by assumption), ?_⟩) | ((with_reducible refine wp_load_box rfl _ rfl ?_); refine ⟨_, _, rfl, (by assumption), ?_⟩) | fail)
          refine (check_eq' rC 1 false _ rC_bd (HT.out _ hb0) (by decide) (by decide) rC1).mono ?_
          rintro e u1 ⟨rfl, hb⟩
          replace hq2 := hq2.below hb
          replace hr := hr.below hb
          replace hb0 := below_next hb0 hb
          clear hb
          clear hqb hq0 hq1 hqt hqc
          go_wp2_with (go_at_call 13; refine (awake08_any _ (HT.out _ hb0)).mono ?_; rintro e u ⟨rfl, hb⟩; replace hb0 := below_next hb0 hb; clear hb)
          go_ret
          exact ⟨rfl, hb0⟩

end Go.Proofs.YtdfgpbighadplaaDoor
