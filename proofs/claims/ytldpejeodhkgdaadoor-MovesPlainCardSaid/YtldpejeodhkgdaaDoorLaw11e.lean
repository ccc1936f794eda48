/- The law MovesPlain. -/
import Derived.Test.YtldpejeodhkgdaaDoorLaw11b
namespace Go.Proofs.YtldpejeodhkgdaaDoor
open Go.RowKit Go.Sort
attribute [local go_sem] Oper.semAt_some

namespace N
/-- A position whose first n squares bear no king. -/
def wipe (c : Nat → Int) (n : Nat) : Nat → Int := fun i => if (1 ≤ i ∧ i ≤ n) ∧ (c i = 6 ∨ c i = 14) then 0 else c i
theorem wipe_zero (c : Nat → Int) : wipe c 0 = c := by
  funext i
  unfold wipe
  rw [if_neg (by omega)]
theorem wipe_far (c : Nat → Int) {n i : Nat} (h : n < i) : wipe c n i = c i := by
  unfold wipe
  rw [if_neg (by omega)]
theorem wipe_low (c : Nat → Int) (n : Nat) : wipe c n 0 = c 0 := by
  unfold wipe
  rw [if_neg (by omega)]
theorem wipe_yes {c : Nat → Int} {n : Nat} (h : c (1 + n) = 6 ∨ c (1 + n) = 14) : wipe c (n + 1) = upd (wipe c n) (1 + n) 0 := by
  funext i
  unfold upd
  by_cases hi : i = 1 + n
  · subst hi
    rw [if_pos rfl]
    unfold wipe
    rw [if_pos ⟨by omega, h⟩]
  · rw [if_neg hi]
    unfold wipe
    by_cases h2 : (1 ≤ i ∧ i ≤ n) ∧ (c i = 6 ∨ c i = 14)
    · rw [if_pos h2, if_pos ⟨by omega, h2.2⟩]
    · rw [if_neg h2, if_neg (fun h3 => h2 ⟨by omega, h3.2⟩)]
theorem wipe_no {c : Nat → Int} {n : Nat} (h : ¬ (c (1 + n) = 6 ∨ c (1 + n) = 14)) : wipe c (n + 1) = wipe c n := by
  funext i
  unfold wipe
  by_cases h2 : (1 ≤ i ∧ i ≤ n) ∧ (c i = 6 ∨ c i = 14)
  · rw [if_pos h2, if_pos ⟨by omega, h2.2⟩]
  · rw [if_neg h2, if_neg (fun h3 => by
      by_cases hi : i = 1 + n
      · subst hi; exact h h3.2
      · exact h2 ⟨by omega, h3.2⟩)]
theorem wipe_ok {c : Nat → Int} (hc : PosOk c) : PosOk (wipe c 64) := fun i hi => by
  unfold wipe
  split
  · rename_i h
    rw [show pk i = .u8 from by unfold pk; rw [if_pos (by omega)]]
    exact u8_wf 0 (by decide) (by decide)
  · exact hc i hi
theorem wipe_known {c : Nat → Int} (h : known c) : known (wipe c 64) := by
  unfold known
  rw [wipe_low, wipe_far c (show 64 < 78 by omega)]
  exact h
theorem wipe_none {c : Nat → Int} (h : known c) (s : ByteArray) : ¬ ∃ a b, IsCas (wipe c 64) a b s := by
  rintro ⟨a, b, hs⟩
  have ha := hs.1
  have hk := cas_king hs
  rw [wipe_far c (show 64 < 78 by omega)] at hk
  have hm : P.make (c 78) 6 = 6 ∨ P.make (c 78) 6 = 14 := by
    rcases (show c 78 = 0 ∨ c 78 = 1 by have := h.2; omega) with e | e <;> rw [e]
    · exact .inl rfl
    · exact .inr rfl
  unfold wipe at hk
  split at hk
  · omega
  · rename_i h2
    exact h2 ⟨by omega, by rw [hk]; exact hm⟩
theorem walk_same {c : Nat → Int} (f x : Nat) (hf : f < 64) : ∀ f' g' x' y' z', ¬ Text c f' g' x' y' z' (walk f f x) := no_text
  (fun k b _ _ e => drop_two (l := lowB x) hf e.symm)
  (fun a b k ha hb hne hk e => by
    have e := list_of e
    simp only [List.cons.injEq] at e
    have e1 := sq_inj hf ha e.1 e.2.1
    have e2 := sq_inj hf hb e.2.2.1 e.2.2.2.1
    omega)
theorem mk_same {c : Nat → Int} (f : Nat) (l : List UInt8) (hf : f < 64) : ∀ f' g' x' y' z', ¬ Text c f' g' x' y' z' (mk f f l) := no_text
  (fun k b _ _ e => drop_two (l := l) hf e.symm)
  (fun a b k ha hb hne hk e => by
    rw [walk_mk] at e
    obtain ⟨e1, e2, _⟩ := mk_inj hf hf ha hb e
    omega)
theorem mk_long {c : Nat → Int} (f g : Nat) (l : List UInt8) (hf : f < 64) (hg : g < 64) (hl : l.length = 2) : ∀ f' g' x' y' z', ¬ Text c f' g' x' y' z' (mk f g l) := no_text
  (fun k b _ _ e => drop_two (l := l) hf e.symm)
  (fun a b k ha hb hne hk e => by
    rw [walk_mk] at e
    obtain ⟨_, _, e⟩ := mk_inj hf hg ha hb e
    have : (lowB k).length ≤ 1 := by
      rcases (show k = 0 ∨ k = 2 ∨ k = 3 ∨ k = 4 ∨ k = 5 ∨ k = 6 by omega) with rfl | rfl | rfl | rfl | rfl | rfl <;> decide
    rw [← e, hl] at this
    omega)
theorem text_walk_is {c : Nat → Int} {f g x : Nat} (hk : known c) (hf : f < 64) (hg : g < 64) (hne : f ≠ g) (hx : x = 0 ∨ (2 ≤ x ∧ x ≤ 6)) (hn : ¬ ∃ a b, IsCas c a b (walk f g x)) : Text c (f : Int) (g : Int) (x : Int) 0 false (walk f g x) :=
  ⟨hk, ⟨by omega, by omega⟩, .inr (.inr ⟨rfl, by omega, by omega, rfl, by simp, hn⟩)⟩
theorem text_noCas {c : Nat → Int} {f g x : Int} (hn : ∀ s, ¬ ∃ a b, IsCas c a b s) : ∀ u, ¬ Text c f g x 0 true u := by
  intro u h
  rcases h.2.2 with ⟨h1, _⟩ | ⟨_, _, _, _, h1⟩ | ⟨_, _, _, h1, _⟩
  · omega
  · exact hn u ⟨_, _, h1⟩
  · cases h1
end N
/-- A position, a move's box. -/
structure PlAt (w : World) (d : Nat → Int) (g : Nat) (m : Array Value) (W : World) : Prop where
  p : PosAt W w.heap.size d
  m : RowAt W g 33 m
  below : Below w.heap.size w W
  hi : w.heap.size < g
theorem PlAt.next {w W W' : World} {d : Nat → Int} {g : Nat} {m : Array Value} (h : PlAt w d g m W) (hb : Below W.heap.size W W') : PlAt w d g m W' :=
  ⟨h.p.below hb, h.m.below hb, below_next h.below hb, h.hi⟩
theorem PlAt.other {w W W' : World} {d : Nat → Int} {g : Nat} {m : Array Value} {o : Obj} (h : PlAt w d g m W) (hP : Put W.heap.size (W.alloc o) W') : PlAt w d g m W' :=
  have h1 := h.next ((Below.refl _ _).alloc (Nat.le_refl _) o)
  ⟨hP.pos h1.p (Nat.ne_of_lt h.p.lt), hP.row h1.m (Nat.ne_of_lt h.m.lt), hP.below h1.below h.below.size, h.hi⟩
theorem PlAt.put {w W W' : World} {d : Nat → Int} {g : Nat} {m m' : Array Value} (h : PlAt w d g m W) (hP : Put g W W') (hm : RowAt W' g 33 m') : PlAt w d g m' W' :=
  ⟨hP.pos h.p (Nat.ne_of_lt h.hi), hm, hP.below h.below (Nat.le_of_lt h.hi), h.hi⟩
theorem Tryd.size_boolS : (Tryd.prog.info? 4).map (·.size) = some 1 := by kernel_rfl

theorem N.mv_selfF (m : Mv) : (m == m) = true := by simp

set_option maxRecDepth 100000 in
set_option maxHeartbeats 16000000 in
theorem movesPlain_same (c : Nat → Int) (f : Nat) (k : Int) (w : World) (hc : PosOk c) (hk : N.known c) (hf : f < 64) :
    Calls Tryd.prog 6 #[.agg (posC c), .int .i8 (f : Int), .int .i8 (f : Int), .int .u8 k] w fun e w' => e = .returned (.bool true) ∧ Below w.heap.size w w' := by
  have H0 := Lib.hid (And.intro (PosAt.new w c) ((Below.refl _ w).alloc (Nat.le_refl _) (.cells (posC c) 31)))
  have hk0 := hk.1
  have hk1 := hk.2
  have d0 : decide (9 ≤ c 0) = false := by simp; omega
  have d1 : decide (1 < c 78) = false := by simp; omega
  have d2 : decide ((f : Int) < 0) = false := by simp
  have d3 : decide (63 < (f : Int)) = false := by simp; omega

  have wf := i8_i64 hf
  have hd := N.wipe_ok hc
  have hkd := N.wipe_known hk
  have hno := N.wipe_none hk
  clear hk0 hk1 hk hc
  go_enter Tryd.func6, Tryd.ntmps6
  go_wp2_with (go_at_call 11; (with_reducible refine (awake11_any _).mono ?_); rintro r w1 ⟨rfl, hb⟩; have H1 := Lib.hid (And.intro (H0.out.1.below hb) (below_next H0.out.2 hb)); have c0 := H1.out.1.cell (i := 0) (by decide); have c78 := H1.out.1.cell (i := 78) (by decide); rw [show pk 0 = .u8 from rfl] at c0; rw [show pk 78 = .u8 from rfl] at c78; clear hb)
  have HZ := Lib.hid (show PosAt w1 w.heap.size (N.wipe c 0) from (N.wipe_zero c).symm ▸ H1.out.1)
  clear c0 c78 d0 d1
  go_loopw [9] (fun i wr => ∃ n : Nat, n ≤ 64 ∧ i = .int .i64 (n : Int) ∧ PosAt wr w.heap.size (N.wipe c n) ∧ Below w.heap.size w wr) (fun i _ => 64 - (intOf i).toNat)
  case atStart => exact ⟨0, Nat.zero_le _, rfl, HZ.out, H1.out.2⟩
  case round =>
    obtain ⟨n, hn, rfl, hp, hbr⟩ := hrel
    by_cases hlt : n < 64
    · have bd := hp.bd hlt
      rw [N.wipe_far c (show n < 1 + n by omega)] at bd
      have hlp := hp.lt
      have HR := Lib.hid (And.intro hp hbr)
      clear hp hbr hd hkd hno
      by_cases h6 : c (1 + n) = 6 ∨ c (1 + n) = 14
      · have HY := Lib.hid (N.wipe_yes h6)
        by_cases h6a : c (1 + n) = 6
        · have k6 : (c (1 + n) == 6) = true := by simpa using h6a
          clear h6 h6a
          go_wp2_with ((with_reducible refine wp_store_cell rfl _ _ _ rfl ?_); refine ⟨w.heap.size, 1 + n, N.wipe c n, 0, .u8, rfl, rfl, HR.out.1, (by omega), pk_board hlt, Tryd.size_u8, ?_⟩; intro V hP hq; have HV := Lib.hid (And.intro (HY.out ▸ hq) (hP.below HR.out.2 (Nat.le_refl _))); clear hP hq)
          go_roundw
          case rel => exact ⟨n + 1, by omega, by go_num, HV.out.1, HV.out.2⟩
          case measure => simp [intOf]; omega
        · have k6 : (c (1 + n) == 6) = false := by simpa using h6a
          have k14 : (c (1 + n) == 14) = true := by simp; omega
          clear h6 h6a
          go_wp2_with ((with_reducible refine wp_store_cell rfl _ _ _ rfl ?_); refine ⟨w.heap.size, 1 + n, N.wipe c n, 0, .u8, rfl, rfl, HR.out.1, (by omega), pk_board hlt, Tryd.size_u8, ?_⟩; intro V hP hq; have HV := Lib.hid (And.intro (HY.out ▸ hq) (hP.below HR.out.2 (Nat.le_refl _))); clear hP hq)
          go_roundw
          case rel => exact ⟨n + 1, by omega, by go_num, HV.out.1, HV.out.2⟩
          case measure => simp [intOf]; omega
      · have HY := Lib.hid (N.wipe_no h6)
        have k6 : (c (1 + n) == 6) = false := by simp; omega
        have k14 : (c (1 + n) == 14) = false := by simp; omega
        clear h6
        go_wp2
        go_roundw
        case rel => exact ⟨n + 1, by omega, by go_num, HY.out ▸ HR.out.1, HR.out.2⟩
        case measure => simp [intOf]; omega
    · obtain rfl : n = 64 := by omega
      obtain ⟨d, hD⟩ : ∃ d, N.wipe c 64 = d := ⟨_, rfl⟩
      rw [hD] at hp hd hkd hno
      have HR := Lib.hid (And.intro hp hbr)
      clear hp hbr hn hD H0 H1 HZ
      by_cases hk2 : k < 2
      · have dk2 : decide (2 ≤ k) = false := by simp; omega
        have eT : (N.tx f ++ N.tx f) = N.walk f f 0 := rfl
        have eQ : ((N.tx f ++ N.tx f) ++ ⟨#[113]⟩) = N.walk f f 5 := rfl
        obtain ⟨f1, g1, x1, y1, z1, e1, hP1, hPC1⟩ := mvParse_fix d (N.tx f ++ N.tx f) hd (Nat.le_of_ble_eq_true rfl)
        obtain ⟨f2, g2, x2, y2, z2, e2, hP2, hPC2⟩ := mvParse_fix d ((N.tx f ++ N.tx f) ++ ⟨#[113]⟩) hd (Nat.le_of_ble_eq_true rfl)
        obtain ⟨S3, hS3, hSC3⟩ := mvText_fix d (f : Int) (f : Int) 0 0 true hd (by unfold MovOk; omega)
        obtain rfl : S3 = ⟨#[]⟩ := N.end_none hS3 (N.text_noCas hno)
        obtain ⟨S4, hS4, hSC4⟩ := mvText_fix d (f : Int) (f : Int) 0 0 false hd (by unfold MovOk; omega)
        rw [eT] at hP1
        rw [eQ] at hP2
        obtain ⟨rfl, rfl, rfl, rfl, rfl, rfl⟩ := N.parse_bad hkd hP1 (N.walk_same f _ hf)
        obtain ⟨rfl, rfl, rfl, rfl, rfl, rfl⟩ := N.parse_bad hkd hP2 (N.walk_same f _ hf)
        obtain rfl : S4 = ⟨#[]⟩ := N.textEnd_one hS4 (N.text_same (.inl rfl))
        have HP1 : Hid (∀ W, Calls Tryd.prog 12 #[.agg (posC d), .string (N.tx f ++ N.tx f)] W fun e w' => e = .returned (.tuple #[.agg (movC 0 0 0 0 false), .int .i64 5]) ∧ Below W.heap.size W w') := Lib.hid hPC1
        have HP2 : Hid (∀ W, Calls Tryd.prog 12 #[.agg (posC d), .string ((N.tx f ++ N.tx f) ++ ⟨#[113]⟩)] W fun e w' => e = .returned (.tuple #[.agg (movC 0 0 0 0 false), .int .i64 5]) ∧ Below W.heap.size W w') := Lib.hid hPC2
        have HS3 : Hid (∀ W, Calls Tryd.prog 9 #[.agg (posC d), .agg (movC (f : Int) (f : Int) 0 0 true)] W fun e w' => e = .returned (.string ⟨#[]⟩) ∧ Below W.heap.size W w') := Lib.hid hSC3
        have HS4 : Hid (∀ W, Calls Tryd.prog 9 #[.agg (posC d), .agg (movC (f : Int) (f : Int) 0 0 false)] W fun e w' => e = .returned (.string ⟨#[]⟩) ∧ Below W.heap.size W w') := Lib.hid hSC4
        have z1 : (N.tx f).size + (N.tx f).size ≤ 9223372036854775807 := Nat.le_of_ble_eq_true rfl
        have z3 : ((N.tx f ++ N.tx f)).size + (⟨#[113]⟩ : ByteArray).size ≤ 9223372036854775807 := Nat.le_of_ble_eq_true rfl
        have HF : Hid (∀ W, Calls Tryd.prog 13 #[.int .i64 (f : Int)] W fun e w' => e = .returned (.string (N.tx f)) ∧ Below W.heap.size W w') := Lib.hid (fun W => sqtext_any f W hf)
        clear eT eQ hP1 hP2 hPC1 hPC2 hS3 hSC3 hS4 hSC4 hno hkd hd hf hk2
        generalize N.tx f = TF at *
        go_upto_region 15 with (first
          | (go_at_call 13; (with_reducible refine (HF.out _).mono ?_); rintro r wa ⟨rfl, hb⟩; first | (have HJ := Lib.hid (And.intro (HI.out.1.below hb) (below_next HI.out.2 hb))) | (have HI := Lib.hid (And.intro (HR.out.1.below hb) (below_next HR.out.2 hb))); clear hb)
          | (go_at_call 13; (with_reducible refine (HF.out _).mono ?_); rintro r wb ⟨rfl, hb⟩; have HJ := Lib.hid (And.intro (HI.out.1.below hb) (below_next HI.out.2 hb)); clear hb)
          | ((with_reducible refine wp_store_at rfl 5 _ _ rfl ?_); refine ⟨_, _, _, _, .int .u8 k, rfl, rfl, rfl, HM.out.m, (by show 2 < 5; omega), Tryd.size_u8, ?_⟩; intro V hV hR3; have HM2 := Lib.hid (show PlAt w d _ (movC (f : Int) (f : Int) 0 0 false) V from HM.out.put hV hR3); clear hV hR3)
          | ((with_reducible refine wp_store_row' rfl 33 _ _ rfl ?_); refine ⟨_, 33, movC (f : Int) (f : Int) 0 0 false, rfl, rfl, ⟨_, heap_alloc_new _ _, (by kernel_rfl)⟩, Tryd.info_mvB _ _ _ _ _, Tryd.one_mvB _ _ _ _ _, ?_⟩; intro V hP hq; have HM := Lib.hid (show PlAt w d _ (movC (f : Int) (f : Int) 0 0 false) V from ⟨hP.pos (HJ.out.1.alloc _) (Nat.ne_of_lt HJ.out.1.lt), hq, hP.below (HJ.out.2.alloc HJ.out.2.size _) HJ.out.2.size, HJ.out.1.lt⟩); clear hP hq))
        go_upto_region 17 with (first
          | ((with_reducible refine wp_load_box_g rfl _ rfl ?_); refine ⟨_, d, rfl, HB1.out.1.p, ?_⟩)
          | ((with_reducible refine wp_load_box_g rfl _ rfl ?_); refine ⟨_, d, rfl, HM.out.p, ?_⟩)
          | (go_at_call 12; (with_reducible refine (HP1.out _).mono ?_); rintro r v1 ⟨rfl, hb⟩; have HA1 := Lib.hid (HM.out.next hb); clear hb)
          | (go_at_call 12; (with_reducible refine (HP2.out _).mono ?_); rintro r v2 ⟨rfl, hb⟩; have HA2 := Lib.hid (And.intro (HB1.out.1.next hb) (And.intro (HB1.out.2.1.below hb) HB1.out.2.2)); clear hb)
          | ((with_reducible refine wp_store_row' rfl 33 _ _ rfl ?_); refine ⟨v1.heap.size, 33, movC 0 0 0 0 false, rfl, rfl, ⟨_, heap_alloc_new _ _, (by kernel_rfl)⟩, Tryd.info_mvB _ _ _ _ _, Tryd.one_mvB _ _ _ _ _, ?_⟩; intro V1 hP hq; have HB1 := Lib.hid (And.intro (HA1.out.other hP) (And.intro hq (Nat.ne_of_gt HA1.out.m.lt))); clear hP hq)
          | ((with_reducible refine wp_store_row' rfl 33 _ _ rfl ?_); refine ⟨v2.heap.size, 33, movC 0 0 0 0 false, rfl, rfl, ⟨_, heap_alloc_new _ _, (by kernel_rfl)⟩, Tryd.info_mvB _ _ _ _ _, Tryd.one_mvB _ _ _ _ _, ?_⟩; intro V2 hP hq; have HB2 := Lib.hid (And.intro (HA2.out.1.other hP) (And.intro (hP.row (HA2.out.2.1.alloc _) (Nat.ne_of_lt HA2.out.2.1.lt)) (And.intro HA2.out.2.2 (And.intro hq (Nat.ne_of_gt HA2.out.1.m.lt))))); clear hP hq))
        go_upto_region 20 with (first
          | ((with_reducible refine wp_load_box_g rfl _ rfl ?_); refine ⟨_, d, rfl, HC1.out.1.p, ?_⟩)
          | ((with_reducible refine mv_load_rowG rfl 33 _ rfl Tryd.underlying33 rfl ?_); refine ⟨_, _, _, rfl, HC1.out.1.m, Tryd.info_mvB _ _ _ _ _, ?_⟩)
          | (go_at_call 9; (with_reducible refine (HS3.out _).mono ?_); rintro r v3 ⟨rfl, hb⟩; have HC2 := Lib.hid (And.intro (HC1.out.1.next hb) (And.intro (HC1.out.2.1.below hb) (And.intro HC1.out.2.2.1 (And.intro (HC1.out.2.2.2.1.below hb) HC1.out.2.2.2.2)))); clear hb)
          | ((with_reducible refine wp_store_at rfl 4 _ _ rfl ?_); refine ⟨_, _, _, _, .bool true, rfl, rfl, rfl, HB2.out.1.m, (by show 4 < 5; omega), Tryd.size_boolS, ?_⟩; intro V hV hR3; have HC1 := Lib.hid (And.intro (show PlAt w d _ (movC (f : Int) (f : Int) 0 0 true) V from HB2.out.1.put hV hR3) (And.intro (hV.row HB2.out.2.1 HB2.out.2.2.1) (And.intro HB2.out.2.2.1 (And.intro (hV.row HB2.out.2.2.2.1 HB2.out.2.2.2.2) HB2.out.2.2.2.2)))); clear hV hR3)
          | ((with_reducible refine wp_store_at rfl 4 _ _ rfl ?_); refine ⟨_, _, _, _, .bool false, rfl, rfl, rfl, HC2.out.1.m, (by show 4 < 5; omega), Tryd.size_boolS, ?_⟩; intro V hV hR3; have HC3 := Lib.hid (And.intro (show PlAt w d _ (movC (f : Int) (f : Int) 0 0 false) V from HC2.out.1.put hV hR3) (And.intro (hV.row HC2.out.2.1 HC2.out.2.2.1) (hV.row HC2.out.2.2.2.1 HC2.out.2.2.2.2))); clear hV hR3))
        have HDD := HC3
        clear HB2 HC1 HC2 HC3 HB1 HA1 HA2 HM
        go_wp2_with (first
          | ((with_reducible refine wp_load_box_g rfl _ rfl ?_); refine ⟨_, d, rfl, HDD.out.1.p, ?_⟩)
          | ((with_reducible refine mv_load_rowG rfl 33 _ rfl Tryd.underlying33 rfl ?_); refine ⟨_, _, _, rfl, HDD.out.1.m, Tryd.info_mvB _ _ _ _ _, ?_⟩)
          | ((with_reducible refine mv_load_rowG rfl 33 _ rfl Tryd.underlying33 rfl ?_); refine ⟨_, _, _, rfl, HDD.out.2.1, Tryd.info_mvB _ _ _ _ _, ?_⟩)
          | ((with_reducible refine wpl_eql_mv rfl _ _ _ rfl ?_); refine ⟨((f : Int), (f : Int), 0, 0, false), ((f : Int), (f : Int), 0, 0, false), rfl, rfl, ?_⟩; rw [N.mv_selfF])
          | (go_at_call 9; (with_reducible refine (HS4.out _).mono ?_); rintro r v4 ⟨rfl, hb⟩; have HE := Lib.hid (HDD.out.1.next hb); have n2 := HE.out.m.cell 2; have n4 := (HDD.out.2.2.below hb).cell 4; rw [show (movC (f : Int) (f : Int) 0 0 false)[2]? = some (.int .u8 0) from rfl] at n2; rw [show (movC 0 0 0 0 false)[4]? = some (.bool false) from rfl] at n4; clear hb))
        go_ret
        exact ⟨by first | rfl | simp, HE.out.below⟩
      by_cases hk6 : 6 < k
      · have dk2 : decide (2 ≤ k) = true := by simp; omega
        have dk6 : decide (k ≤ 6) = false := by simp; omega
        have eT : (N.tx f ++ N.tx f) = N.walk f f 0 := rfl
        have eQ : ((N.tx f ++ N.tx f) ++ ⟨#[113]⟩) = N.walk f f 5 := rfl
        obtain ⟨f1, g1, x1, y1, z1, e1, hP1, hPC1⟩ := mvParse_fix d (N.tx f ++ N.tx f) hd (Nat.le_of_ble_eq_true rfl)
        obtain ⟨f2, g2, x2, y2, z2, e2, hP2, hPC2⟩ := mvParse_fix d ((N.tx f ++ N.tx f) ++ ⟨#[113]⟩) hd (Nat.le_of_ble_eq_true rfl)
        obtain ⟨S3, hS3, hSC3⟩ := mvText_fix d (f : Int) (f : Int) 0 0 true hd (by unfold MovOk; omega)
        obtain rfl : S3 = ⟨#[]⟩ := N.end_none hS3 (N.text_noCas hno)
        obtain ⟨S4, hS4, hSC4⟩ := mvText_fix d (f : Int) (f : Int) 0 0 false hd (by unfold MovOk; omega)
        rw [eT] at hP1
        rw [eQ] at hP2
        obtain ⟨rfl, rfl, rfl, rfl, rfl, rfl⟩ := N.parse_bad hkd hP1 (N.walk_same f _ hf)
        obtain ⟨rfl, rfl, rfl, rfl, rfl, rfl⟩ := N.parse_bad hkd hP2 (N.walk_same f _ hf)
        obtain rfl : S4 = ⟨#[]⟩ := N.textEnd_one hS4 (N.text_same (.inl rfl))
        have HP1 : Hid (∀ W, Calls Tryd.prog 12 #[.agg (posC d), .string (N.tx f ++ N.tx f)] W fun e w' => e = .returned (.tuple #[.agg (movC 0 0 0 0 false), .int .i64 5]) ∧ Below W.heap.size W w') := Lib.hid hPC1
        have HP2 : Hid (∀ W, Calls Tryd.prog 12 #[.agg (posC d), .string ((N.tx f ++ N.tx f) ++ ⟨#[113]⟩)] W fun e w' => e = .returned (.tuple #[.agg (movC 0 0 0 0 false), .int .i64 5]) ∧ Below W.heap.size W w') := Lib.hid hPC2
        have HS3 : Hid (∀ W, Calls Tryd.prog 9 #[.agg (posC d), .agg (movC (f : Int) (f : Int) 0 0 true)] W fun e w' => e = .returned (.string ⟨#[]⟩) ∧ Below W.heap.size W w') := Lib.hid hSC3
        have HS4 : Hid (∀ W, Calls Tryd.prog 9 #[.agg (posC d), .agg (movC (f : Int) (f : Int) 0 0 false)] W fun e w' => e = .returned (.string ⟨#[]⟩) ∧ Below W.heap.size W w') := Lib.hid hSC4
        have z1 : (N.tx f).size + (N.tx f).size ≤ 9223372036854775807 := Nat.le_of_ble_eq_true rfl
        have z3 : ((N.tx f ++ N.tx f)).size + (⟨#[113]⟩ : ByteArray).size ≤ 9223372036854775807 := Nat.le_of_ble_eq_true rfl
        have HF : Hid (∀ W, Calls Tryd.prog 13 #[.int .i64 (f : Int)] W fun e w' => e = .returned (.string (N.tx f)) ∧ Below W.heap.size W w') := Lib.hid (fun W => sqtext_any f W hf)
        clear eT eQ hP1 hP2 hPC1 hPC2 hS3 hSC3 hS4 hSC4 hno hkd hd hf hk2 hk6
        generalize N.tx f = TF at *
        go_upto_region 15 with (first
          | (go_at_call 13; (with_reducible refine (HF.out _).mono ?_); rintro r wa ⟨rfl, hb⟩; first | (have HJ := Lib.hid (And.intro (HI.out.1.below hb) (below_next HI.out.2 hb))) | (have HI := Lib.hid (And.intro (HR.out.1.below hb) (below_next HR.out.2 hb))); clear hb)
          | (go_at_call 13; (with_reducible refine (HF.out _).mono ?_); rintro r wb ⟨rfl, hb⟩; have HJ := Lib.hid (And.intro (HI.out.1.below hb) (below_next HI.out.2 hb)); clear hb)
          | ((with_reducible refine wp_store_at rfl 5 _ _ rfl ?_); refine ⟨_, _, _, _, .int .u8 k, rfl, rfl, rfl, HM.out.m, (by show 2 < 5; omega), Tryd.size_u8, ?_⟩; intro V hV hR3; have HM2 := Lib.hid (show PlAt w d _ (movC (f : Int) (f : Int) 0 0 false) V from HM.out.put hV hR3); clear hV hR3)
          | ((with_reducible refine wp_store_row' rfl 33 _ _ rfl ?_); refine ⟨_, 33, movC (f : Int) (f : Int) 0 0 false, rfl, rfl, ⟨_, heap_alloc_new _ _, (by kernel_rfl)⟩, Tryd.info_mvB _ _ _ _ _, Tryd.one_mvB _ _ _ _ _, ?_⟩; intro V hP hq; have HM := Lib.hid (show PlAt w d _ (movC (f : Int) (f : Int) 0 0 false) V from ⟨hP.pos (HJ.out.1.alloc _) (Nat.ne_of_lt HJ.out.1.lt), hq, hP.below (HJ.out.2.alloc HJ.out.2.size _) HJ.out.2.size, HJ.out.1.lt⟩); clear hP hq))
        go_upto_region 17 with (first
          | ((with_reducible refine wp_load_box_g rfl _ rfl ?_); refine ⟨_, d, rfl, HB1.out.1.p, ?_⟩)
          | ((with_reducible refine wp_load_box_g rfl _ rfl ?_); refine ⟨_, d, rfl, HM.out.p, ?_⟩)
          | (go_at_call 12; (with_reducible refine (HP1.out _).mono ?_); rintro r v1 ⟨rfl, hb⟩; have HA1 := Lib.hid (HM.out.next hb); clear hb)
          | (go_at_call 12; (with_reducible refine (HP2.out _).mono ?_); rintro r v2 ⟨rfl, hb⟩; have HA2 := Lib.hid (And.intro (HB1.out.1.next hb) (And.intro (HB1.out.2.1.below hb) HB1.out.2.2)); clear hb)
          | ((with_reducible refine wp_store_row' rfl 33 _ _ rfl ?_); refine ⟨v1.heap.size, 33, movC 0 0 0 0 false, rfl, rfl, ⟨_, heap_alloc_new _ _, (by kernel_rfl)⟩, Tryd.info_mvB _ _ _ _ _, Tryd.one_mvB _ _ _ _ _, ?_⟩; intro V1 hP hq; have HB1 := Lib.hid (And.intro (HA1.out.other hP) (And.intro hq (Nat.ne_of_gt HA1.out.m.lt))); clear hP hq)
          | ((with_reducible refine wp_store_row' rfl 33 _ _ rfl ?_); refine ⟨v2.heap.size, 33, movC 0 0 0 0 false, rfl, rfl, ⟨_, heap_alloc_new _ _, (by kernel_rfl)⟩, Tryd.info_mvB _ _ _ _ _, Tryd.one_mvB _ _ _ _ _, ?_⟩; intro V2 hP hq; have HB2 := Lib.hid (And.intro (HA2.out.1.other hP) (And.intro (hP.row (HA2.out.2.1.alloc _) (Nat.ne_of_lt HA2.out.2.1.lt)) (And.intro HA2.out.2.2 (And.intro hq (Nat.ne_of_gt HA2.out.1.m.lt))))); clear hP hq))
        go_upto_region 20 with (first
          | ((with_reducible refine wp_load_box_g rfl _ rfl ?_); refine ⟨_, d, rfl, HC1.out.1.p, ?_⟩)
          | ((with_reducible refine mv_load_rowG rfl 33 _ rfl Tryd.underlying33 rfl ?_); refine ⟨_, _, _, rfl, HC1.out.1.m, Tryd.info_mvB _ _ _ _ _, ?_⟩)
          | (go_at_call 9; (with_reducible refine (HS3.out _).mono ?_); rintro r v3 ⟨rfl, hb⟩; have HC2 := Lib.hid (And.intro (HC1.out.1.next hb) (And.intro (HC1.out.2.1.below hb) (And.intro HC1.out.2.2.1 (And.intro (HC1.out.2.2.2.1.below hb) HC1.out.2.2.2.2)))); clear hb)
          | ((with_reducible refine wp_store_at rfl 4 _ _ rfl ?_); refine ⟨_, _, _, _, .bool true, rfl, rfl, rfl, HB2.out.1.m, (by show 4 < 5; omega), Tryd.size_boolS, ?_⟩; intro V hV hR3; have HC1 := Lib.hid (And.intro (show PlAt w d _ (movC (f : Int) (f : Int) 0 0 true) V from HB2.out.1.put hV hR3) (And.intro (hV.row HB2.out.2.1 HB2.out.2.2.1) (And.intro HB2.out.2.2.1 (And.intro (hV.row HB2.out.2.2.2.1 HB2.out.2.2.2.2) HB2.out.2.2.2.2)))); clear hV hR3)
          | ((with_reducible refine wp_store_at rfl 4 _ _ rfl ?_); refine ⟨_, _, _, _, .bool false, rfl, rfl, rfl, HC2.out.1.m, (by show 4 < 5; omega), Tryd.size_boolS, ?_⟩; intro V hV hR3; have HC3 := Lib.hid (And.intro (show PlAt w d _ (movC (f : Int) (f : Int) 0 0 false) V from HC2.out.1.put hV hR3) (And.intro (hV.row HC2.out.2.1 HC2.out.2.2.1) (hV.row HC2.out.2.2.2.1 HC2.out.2.2.2.2))); clear hV hR3))
        have HDD := HC3
        clear HB2 HC1 HC2 HC3 HB1 HA1 HA2 HM
        go_wp2_with (first
          | ((with_reducible refine wp_load_box_g rfl _ rfl ?_); refine ⟨_, d, rfl, HDD.out.1.p, ?_⟩)
          | ((with_reducible refine mv_load_rowG rfl 33 _ rfl Tryd.underlying33 rfl ?_); refine ⟨_, _, _, rfl, HDD.out.1.m, Tryd.info_mvB _ _ _ _ _, ?_⟩)
          | ((with_reducible refine mv_load_rowG rfl 33 _ rfl Tryd.underlying33 rfl ?_); refine ⟨_, _, _, rfl, HDD.out.2.1, Tryd.info_mvB _ _ _ _ _, ?_⟩)
          | ((with_reducible refine wpl_eql_mv rfl _ _ _ rfl ?_); refine ⟨((f : Int), (f : Int), 0, 0, false), ((f : Int), (f : Int), 0, 0, false), rfl, rfl, ?_⟩; rw [N.mv_selfF])
          | (go_at_call 9; (with_reducible refine (HS4.out _).mono ?_); rintro r v4 ⟨rfl, hb⟩; have HE := Lib.hid (HDD.out.1.next hb); have n2 := HE.out.m.cell 2; have n4 := (HDD.out.2.2.below hb).cell 4; rw [show (movC (f : Int) (f : Int) 0 0 false)[2]? = some (.int .u8 0) from rfl] at n2; rw [show (movC 0 0 0 0 false)[4]? = some (.bool false) from rfl] at n4; clear hb))
        go_ret
        exact ⟨by first | rfl | simp, HE.out.below⟩
      rcases (show k = 2 ∨ k = 3 ∨ k = 4 ∨ k = 5 ∨ k = 6 by omega) with rfl | rfl | rfl | rfl | rfl
      · clear hk2 hk6
        have eT : ((N.tx f ++ N.tx f) ++ (⟨#[63, 63, 110, 98, 114, 113, 107]⟩ : ByteArray).extract 2 3) = N.walk f f 2 := rfl
        have eQ : (((N.tx f ++ N.tx f) ++ (⟨#[63, 63, 110, 98, 114, 113, 107]⟩ : ByteArray).extract 2 3) ++ ⟨#[113]⟩) = N.mk f f (N.lowB 2 ++ [113]) := rfl
        obtain ⟨f1, g1, x1, y1, z1, e1, hP1, hPC1⟩ := mvParse_fix d ((N.tx f ++ N.tx f) ++ (⟨#[63, 63, 110, 98, 114, 113, 107]⟩ : ByteArray).extract 2 3) hd (Nat.le_of_ble_eq_true rfl)
        obtain ⟨f2, g2, x2, y2, z2, e2, hP2, hPC2⟩ := mvParse_fix d (((N.tx f ++ N.tx f) ++ (⟨#[63, 63, 110, 98, 114, 113, 107]⟩ : ByteArray).extract 2 3) ++ ⟨#[113]⟩) hd (Nat.le_of_ble_eq_true rfl)
        obtain ⟨S3, hS3, hSC3⟩ := mvText_fix d (f : Int) (f : Int) 2 0 true hd (by unfold MovOk; omega)
        obtain rfl : S3 = ⟨#[]⟩ := N.end_none hS3 (N.text_noCas hno)
        obtain ⟨S4, hS4, hSC4⟩ := mvText_fix d (f : Int) (f : Int) 2 0 false hd (by unfold MovOk; omega)
        rw [eT] at hP1
        rw [eQ] at hP2
        obtain ⟨rfl, rfl, rfl, rfl, rfl, rfl⟩ := N.parse_bad hkd hP1 (N.walk_same f _ hf)
        obtain ⟨rfl, rfl, rfl, rfl, rfl, rfl⟩ := N.parse_bad hkd hP2 (N.mk_same f _ hf)
        obtain rfl : S4 = ⟨#[]⟩ := N.textEnd_one hS4 (N.text_same (.inl rfl))
        have HP1 : Hid (∀ W, Calls Tryd.prog 12 #[.agg (posC d), .string ((N.tx f ++ N.tx f) ++ (⟨#[63, 63, 110, 98, 114, 113, 107]⟩ : ByteArray).extract 2 3)] W fun e w' => e = .returned (.tuple #[.agg (movC 0 0 0 0 false), .int .i64 5]) ∧ Below W.heap.size W w') := Lib.hid hPC1
        have HP2 : Hid (∀ W, Calls Tryd.prog 12 #[.agg (posC d), .string (((N.tx f ++ N.tx f) ++ (⟨#[63, 63, 110, 98, 114, 113, 107]⟩ : ByteArray).extract 2 3) ++ ⟨#[113]⟩)] W fun e w' => e = .returned (.tuple #[.agg (movC 0 0 0 0 false), .int .i64 5]) ∧ Below W.heap.size W w') := Lib.hid hPC2
        have HS3 : Hid (∀ W, Calls Tryd.prog 9 #[.agg (posC d), .agg (movC (f : Int) (f : Int) 2 0 true)] W fun e w' => e = .returned (.string ⟨#[]⟩) ∧ Below W.heap.size W w') := Lib.hid hSC3
        have HS4 : Hid (∀ W, Calls Tryd.prog 9 #[.agg (posC d), .agg (movC (f : Int) (f : Int) 2 0 false)] W fun e w' => e = .returned (.string ⟨#[]⟩) ∧ Below W.heap.size W w') := Lib.hid hSC4
        have z1 : (N.tx f).size + (N.tx f).size ≤ 9223372036854775807 := Nat.le_of_ble_eq_true rfl
        have z2 : (N.tx f ++ N.tx f).size + ((⟨#[63, 63, 110, 98, 114, 113, 107]⟩ : ByteArray).extract 2 3).size ≤ 9223372036854775807 := Nat.le_of_ble_eq_true rfl
        have z3 : (((N.tx f ++ N.tx f) ++ (⟨#[63, 63, 110, 98, 114, 113, 107]⟩ : ByteArray).extract 2 3)).size + (⟨#[113]⟩ : ByteArray).size ≤ 9223372036854775807 := Nat.le_of_ble_eq_true rfl
        have HF : Hid (∀ W, Calls Tryd.prog 13 #[.int .i64 (f : Int)] W fun e w' => e = .returned (.string (N.tx f)) ∧ Below W.heap.size W w') := Lib.hid (fun W => sqtext_any f W hf)
        clear eT eQ hP1 hP2 hPC1 hPC2 hS3 hSC3 hS4 hSC4 hno hkd hd hf
        generalize N.tx f = TF at *
        go_upto_region 15 with (first
          | (go_at_call 13; (with_reducible refine (HF.out _).mono ?_); rintro r wa ⟨rfl, hb⟩; first | (have HJ := Lib.hid (And.intro (HI.out.1.below hb) (below_next HI.out.2 hb))) | (have HI := Lib.hid (And.intro (HR.out.1.below hb) (below_next HR.out.2 hb))); clear hb)
          | (go_at_call 13; (with_reducible refine (HF.out _).mono ?_); rintro r wb ⟨rfl, hb⟩; have HJ := Lib.hid (And.intro (HI.out.1.below hb) (below_next HI.out.2 hb)); clear hb)
          | ((with_reducible refine wp_store_at rfl 5 _ _ rfl ?_); refine ⟨_, _, _, _, .int .u8 2, rfl, rfl, rfl, HM.out.m, (by show 2 < 5; omega), Tryd.size_u8, ?_⟩; intro V hV hR3; have HM2 := Lib.hid (show PlAt w d _ (movC (f : Int) (f : Int) 2 0 false) V from HM.out.put hV hR3); clear hV hR3)
          | ((with_reducible refine wp_store_row' rfl 33 _ _ rfl ?_); refine ⟨_, 33, movC (f : Int) (f : Int) 0 0 false, rfl, rfl, ⟨_, heap_alloc_new _ _, (by kernel_rfl)⟩, Tryd.info_mvB _ _ _ _ _, Tryd.one_mvB _ _ _ _ _, ?_⟩; intro V hP hq; have HM := Lib.hid (show PlAt w d _ (movC (f : Int) (f : Int) 0 0 false) V from ⟨hP.pos (HJ.out.1.alloc _) (Nat.ne_of_lt HJ.out.1.lt), hq, hP.below (HJ.out.2.alloc HJ.out.2.size _) HJ.out.2.size, HJ.out.1.lt⟩); clear hP hq))
        have HM := HM2
        go_upto_region 17 with (first
          | ((with_reducible refine wp_load_box_g rfl _ rfl ?_); refine ⟨_, d, rfl, HB1.out.1.p, ?_⟩)
          | ((with_reducible refine wp_load_box_g rfl _ rfl ?_); refine ⟨_, d, rfl, HM.out.p, ?_⟩)
          | (go_at_call 12; (with_reducible refine (HP1.out _).mono ?_); rintro r v1 ⟨rfl, hb⟩; have HA1 := Lib.hid (HM.out.next hb); clear hb)
          | (go_at_call 12; (with_reducible refine (HP2.out _).mono ?_); rintro r v2 ⟨rfl, hb⟩; have HA2 := Lib.hid (And.intro (HB1.out.1.next hb) (And.intro (HB1.out.2.1.below hb) HB1.out.2.2)); clear hb)
          | ((with_reducible refine wp_store_row' rfl 33 _ _ rfl ?_); refine ⟨v1.heap.size, 33, movC 0 0 0 0 false, rfl, rfl, ⟨_, heap_alloc_new _ _, (by kernel_rfl)⟩, Tryd.info_mvB _ _ _ _ _, Tryd.one_mvB _ _ _ _ _, ?_⟩; intro V1 hP hq; have HB1 := Lib.hid (And.intro (HA1.out.other hP) (And.intro hq (Nat.ne_of_gt HA1.out.m.lt))); clear hP hq)
          | ((with_reducible refine wp_store_row' rfl 33 _ _ rfl ?_); refine ⟨v2.heap.size, 33, movC 0 0 0 0 false, rfl, rfl, ⟨_, heap_alloc_new _ _, (by kernel_rfl)⟩, Tryd.info_mvB _ _ _ _ _, Tryd.one_mvB _ _ _ _ _, ?_⟩; intro V2 hP hq; have HB2 := Lib.hid (And.intro (HA2.out.1.other hP) (And.intro (hP.row (HA2.out.2.1.alloc _) (Nat.ne_of_lt HA2.out.2.1.lt)) (And.intro HA2.out.2.2 (And.intro hq (Nat.ne_of_gt HA2.out.1.m.lt))))); clear hP hq))
        go_upto_region 20 with (first
          | ((with_reducible refine wp_load_box_g rfl _ rfl ?_); refine ⟨_, d, rfl, HC1.out.1.p, ?_⟩)
          | ((with_reducible refine mv_load_rowG rfl 33 _ rfl Tryd.underlying33 rfl ?_); refine ⟨_, _, _, rfl, HC1.out.1.m, Tryd.info_mvB _ _ _ _ _, ?_⟩)
          | (go_at_call 9; (with_reducible refine (HS3.out _).mono ?_); rintro r v3 ⟨rfl, hb⟩; have HC2 := Lib.hid (And.intro (HC1.out.1.next hb) (And.intro (HC1.out.2.1.below hb) (And.intro HC1.out.2.2.1 (And.intro (HC1.out.2.2.2.1.below hb) HC1.out.2.2.2.2)))); clear hb)
          | ((with_reducible refine wp_store_at rfl 4 _ _ rfl ?_); refine ⟨_, _, _, _, .bool true, rfl, rfl, rfl, HB2.out.1.m, (by show 4 < 5; omega), Tryd.size_boolS, ?_⟩; intro V hV hR3; have HC1 := Lib.hid (And.intro (show PlAt w d _ (movC (f : Int) (f : Int) 2 0 true) V from HB2.out.1.put hV hR3) (And.intro (hV.row HB2.out.2.1 HB2.out.2.2.1) (And.intro HB2.out.2.2.1 (And.intro (hV.row HB2.out.2.2.2.1 HB2.out.2.2.2.2) HB2.out.2.2.2.2)))); clear hV hR3)
          | ((with_reducible refine wp_store_at rfl 4 _ _ rfl ?_); refine ⟨_, _, _, _, .bool false, rfl, rfl, rfl, HC2.out.1.m, (by show 4 < 5; omega), Tryd.size_boolS, ?_⟩; intro V hV hR3; have HC3 := Lib.hid (And.intro (show PlAt w d _ (movC (f : Int) (f : Int) 2 0 false) V from HC2.out.1.put hV hR3) (And.intro (hV.row HC2.out.2.1 HC2.out.2.2.1) (hV.row HC2.out.2.2.2.1 HC2.out.2.2.2.2))); clear hV hR3))
        have HDD := HC3
        clear HB2 HC1 HC2 HC3 HB1 HA1 HA2 HM
        go_wp2_with (first
          | ((with_reducible refine wp_load_box_g rfl _ rfl ?_); refine ⟨_, d, rfl, HDD.out.1.p, ?_⟩)
          | ((with_reducible refine mv_load_rowG rfl 33 _ rfl Tryd.underlying33 rfl ?_); refine ⟨_, _, _, rfl, HDD.out.1.m, Tryd.info_mvB _ _ _ _ _, ?_⟩)
          | ((with_reducible refine mv_load_rowG rfl 33 _ rfl Tryd.underlying33 rfl ?_); refine ⟨_, _, _, rfl, HDD.out.2.1, Tryd.info_mvB _ _ _ _ _, ?_⟩)
          | ((with_reducible refine wpl_eql_mv rfl _ _ _ rfl ?_); refine ⟨((f : Int), (f : Int), 2, 0, false), ((f : Int), (f : Int), 2, 0, false), rfl, rfl, ?_⟩; rw [N.mv_selfF])
          | (go_at_call 9; (with_reducible refine (HS4.out _).mono ?_); rintro r v4 ⟨rfl, hb⟩; have HE := Lib.hid (HDD.out.1.next hb); have n2 := HE.out.m.cell 2; have n4 := (HDD.out.2.2.below hb).cell 4; rw [show (movC (f : Int) (f : Int) 2 0 false)[2]? = some (.int .u8 2) from rfl] at n2; rw [show (movC 0 0 0 0 false)[4]? = some (.bool false) from rfl] at n4; clear hb))
        go_ret
        exact ⟨by first | rfl | simp, HE.out.below⟩
      · clear hk2 hk6
        have eT : ((N.tx f ++ N.tx f) ++ (⟨#[63, 63, 110, 98, 114, 113, 107]⟩ : ByteArray).extract 3 4) = N.walk f f 3 := rfl
        have eQ : (((N.tx f ++ N.tx f) ++ (⟨#[63, 63, 110, 98, 114, 113, 107]⟩ : ByteArray).extract 3 4) ++ ⟨#[113]⟩) = N.mk f f (N.lowB 3 ++ [113]) := rfl
        obtain ⟨f1, g1, x1, y1, z1, e1, hP1, hPC1⟩ := mvParse_fix d ((N.tx f ++ N.tx f) ++ (⟨#[63, 63, 110, 98, 114, 113, 107]⟩ : ByteArray).extract 3 4) hd (Nat.le_of_ble_eq_true rfl)
        obtain ⟨f2, g2, x2, y2, z2, e2, hP2, hPC2⟩ := mvParse_fix d (((N.tx f ++ N.tx f) ++ (⟨#[63, 63, 110, 98, 114, 113, 107]⟩ : ByteArray).extract 3 4) ++ ⟨#[113]⟩) hd (Nat.le_of_ble_eq_true rfl)
        obtain ⟨S3, hS3, hSC3⟩ := mvText_fix d (f : Int) (f : Int) 3 0 true hd (by unfold MovOk; omega)
        obtain rfl : S3 = ⟨#[]⟩ := N.end_none hS3 (N.text_noCas hno)
        obtain ⟨S4, hS4, hSC4⟩ := mvText_fix d (f : Int) (f : Int) 3 0 false hd (by unfold MovOk; omega)
        rw [eT] at hP1
        rw [eQ] at hP2
        obtain ⟨rfl, rfl, rfl, rfl, rfl, rfl⟩ := N.parse_bad hkd hP1 (N.walk_same f _ hf)
        obtain ⟨rfl, rfl, rfl, rfl, rfl, rfl⟩ := N.parse_bad hkd hP2 (N.mk_same f _ hf)
        obtain rfl : S4 = ⟨#[]⟩ := N.textEnd_one hS4 (N.text_same (.inl rfl))
        have HP1 : Hid (∀ W, Calls Tryd.prog 12 #[.agg (posC d), .string ((N.tx f ++ N.tx f) ++ (⟨#[63, 63, 110, 98, 114, 113, 107]⟩ : ByteArray).extract 3 4)] W fun e w' => e = .returned (.tuple #[.agg (movC 0 0 0 0 false), .int .i64 5]) ∧ Below W.heap.size W w') := Lib.hid hPC1
        have HP2 : Hid (∀ W, Calls Tryd.prog 12 #[.agg (posC d), .string (((N.tx f ++ N.tx f) ++ (⟨#[63, 63, 110, 98, 114, 113, 107]⟩ : ByteArray).extract 3 4) ++ ⟨#[113]⟩)] W fun e w' => e = .returned (.tuple #[.agg (movC 0 0 0 0 false), .int .i64 5]) ∧ Below W.heap.size W w') := Lib.hid hPC2
        have HS3 : Hid (∀ W, Calls Tryd.prog 9 #[.agg (posC d), .agg (movC (f : Int) (f : Int) 3 0 true)] W fun e w' => e = .returned (.string ⟨#[]⟩) ∧ Below W.heap.size W w') := Lib.hid hSC3
        have HS4 : Hid (∀ W, Calls Tryd.prog 9 #[.agg (posC d), .agg (movC (f : Int) (f : Int) 3 0 false)] W fun e w' => e = .returned (.string ⟨#[]⟩) ∧ Below W.heap.size W w') := Lib.hid hSC4
        have z1 : (N.tx f).size + (N.tx f).size ≤ 9223372036854775807 := Nat.le_of_ble_eq_true rfl
        have z2 : (N.tx f ++ N.tx f).size + ((⟨#[63, 63, 110, 98, 114, 113, 107]⟩ : ByteArray).extract 3 4).size ≤ 9223372036854775807 := Nat.le_of_ble_eq_true rfl
        have z3 : (((N.tx f ++ N.tx f) ++ (⟨#[63, 63, 110, 98, 114, 113, 107]⟩ : ByteArray).extract 3 4)).size + (⟨#[113]⟩ : ByteArray).size ≤ 9223372036854775807 := Nat.le_of_ble_eq_true rfl
        have HF : Hid (∀ W, Calls Tryd.prog 13 #[.int .i64 (f : Int)] W fun e w' => e = .returned (.string (N.tx f)) ∧ Below W.heap.size W w') := Lib.hid (fun W => sqtext_any f W hf)
        clear eT eQ hP1 hP2 hPC1 hPC2 hS3 hSC3 hS4 hSC4 hno hkd hd hf
        generalize N.tx f = TF at *
        go_upto_region 15 with (first
          | (go_at_call 13; (with_reducible refine (HF.out _).mono ?_); rintro r wa ⟨rfl, hb⟩; first | (have HJ := Lib.hid (And.intro (HI.out.1.below hb) (below_next HI.out.2 hb))) | (have HI := Lib.hid (And.intro (HR.out.1.below hb) (below_next HR.out.2 hb))); clear hb)
          | (go_at_call 13; (with_reducible refine (HF.out _).mono ?_); rintro r wb ⟨rfl, hb⟩; have HJ := Lib.hid (And.intro (HI.out.1.below hb) (below_next HI.out.2 hb)); clear hb)
          | ((with_reducible refine wp_store_at rfl 5 _ _ rfl ?_); refine ⟨_, _, _, _, .int .u8 3, rfl, rfl, rfl, HM.out.m, (by show 2 < 5; omega), Tryd.size_u8, ?_⟩; intro V hV hR3; have HM2 := Lib.hid (show PlAt w d _ (movC (f : Int) (f : Int) 3 0 false) V from HM.out.put hV hR3); clear hV hR3)
          | ((with_reducible refine wp_store_row' rfl 33 _ _ rfl ?_); refine ⟨_, 33, movC (f : Int) (f : Int) 0 0 false, rfl, rfl, ⟨_, heap_alloc_new _ _, (by kernel_rfl)⟩, Tryd.info_mvB _ _ _ _ _, Tryd.one_mvB _ _ _ _ _, ?_⟩; intro V hP hq; have HM := Lib.hid (show PlAt w d _ (movC (f : Int) (f : Int) 0 0 false) V from ⟨hP.pos (HJ.out.1.alloc _) (Nat.ne_of_lt HJ.out.1.lt), hq, hP.below (HJ.out.2.alloc HJ.out.2.size _) HJ.out.2.size, HJ.out.1.lt⟩); clear hP hq))
        have HM := HM2
        go_upto_region 17 with (first
          | ((with_reducible refine wp_load_box_g rfl _ rfl ?_); refine ⟨_, d, rfl, HB1.out.1.p, ?_⟩)
          | ((with_reducible refine wp_load_box_g rfl _ rfl ?_); refine ⟨_, d, rfl, HM.out.p, ?_⟩)
          | (go_at_call 12; (with_reducible refine (HP1.out _).mono ?_); rintro r v1 ⟨rfl, hb⟩; have HA1 := Lib.hid (HM.out.next hb); clear hb)
          | (go_at_call 12; (with_reducible refine (HP2.out _).mono ?_); rintro r v2 ⟨rfl, hb⟩; have HA2 := Lib.hid (And.intro (HB1.out.1.next hb) (And.intro (HB1.out.2.1.below hb) HB1.out.2.2)); clear hb)
          | ((with_reducible refine wp_store_row' rfl 33 _ _ rfl ?_); refine ⟨v1.heap.size, 33, movC 0 0 0 0 false, rfl, rfl, ⟨_, heap_alloc_new _ _, (by kernel_rfl)⟩, Tryd.info_mvB _ _ _ _ _, Tryd.one_mvB _ _ _ _ _, ?_⟩; intro V1 hP hq; have HB1 := Lib.hid (And.intro (HA1.out.other hP) (And.intro hq (Nat.ne_of_gt HA1.out.m.lt))); clear hP hq)
          | ((with_reducible refine wp_store_row' rfl 33 _ _ rfl ?_); refine ⟨v2.heap.size, 33, movC 0 0 0 0 false, rfl, rfl, ⟨_, heap_alloc_new _ _, (by kernel_rfl)⟩, Tryd.info_mvB _ _ _ _ _, Tryd.one_mvB _ _ _ _ _, ?_⟩; intro V2 hP hq; have HB2 := Lib.hid (And.intro (HA2.out.1.other hP) (And.intro (hP.row (HA2.out.2.1.alloc _) (Nat.ne_of_lt HA2.out.2.1.lt)) (And.intro HA2.out.2.2 (And.intro hq (Nat.ne_of_gt HA2.out.1.m.lt))))); clear hP hq))
        go_upto_region 20 with (first
          | ((with_reducible refine wp_load_box_g rfl _ rfl ?_); refine ⟨_, d, rfl, HC1.out.1.p, ?_⟩)
          | ((with_reducible refine mv_load_rowG rfl 33 _ rfl Tryd.underlying33 rfl ?_); refine ⟨_, _, _, rfl, HC1.out.1.m, Tryd.info_mvB _ _ _ _ _, ?_⟩)
          | (go_at_call 9; (with_reducible refine (HS3.out _).mono ?_); rintro r v3 ⟨rfl, hb⟩; have HC2 := Lib.hid (And.intro (HC1.out.1.next hb) (And.intro (HC1.out.2.1.below hb) (And.intro HC1.out.2.2.1 (And.intro (HC1.out.2.2.2.1.below hb) HC1.out.2.2.2.2)))); clear hb)
          | ((with_reducible refine wp_store_at rfl 4 _ _ rfl ?_); refine ⟨_, _, _, _, .bool true, rfl, rfl, rfl, HB2.out.1.m, (by show 4 < 5; omega), Tryd.size_boolS, ?_⟩; intro V hV hR3; have HC1 := Lib.hid (And.intro (show PlAt w d _ (movC (f : Int) (f : Int) 3 0 true) V from HB2.out.1.put hV hR3) (And.intro (hV.row HB2.out.2.1 HB2.out.2.2.1) (And.intro HB2.out.2.2.1 (And.intro (hV.row HB2.out.2.2.2.1 HB2.out.2.2.2.2) HB2.out.2.2.2.2)))); clear hV hR3)
          | ((with_reducible refine wp_store_at rfl 4 _ _ rfl ?_); refine ⟨_, _, _, _, .bool false, rfl, rfl, rfl, HC2.out.1.m, (by show 4 < 5; omega), Tryd.size_boolS, ?_⟩; intro V hV hR3; have HC3 := Lib.hid (And.intro (show PlAt w d _ (movC (f : Int) (f : Int) 3 0 false) V from HC2.out.1.put hV hR3) (And.intro (hV.row HC2.out.2.1 HC2.out.2.2.1) (hV.row HC2.out.2.2.2.1 HC2.out.2.2.2.2))); clear hV hR3))
        have HDD := HC3
        clear HB2 HC1 HC2 HC3 HB1 HA1 HA2 HM
        go_wp2_with (first
          | ((with_reducible refine wp_load_box_g rfl _ rfl ?_); refine ⟨_, d, rfl, HDD.out.1.p, ?_⟩)
          | ((with_reducible refine mv_load_rowG rfl 33 _ rfl Tryd.underlying33 rfl ?_); refine ⟨_, _, _, rfl, HDD.out.1.m, Tryd.info_mvB _ _ _ _ _, ?_⟩)
          | ((with_reducible refine mv_load_rowG rfl 33 _ rfl Tryd.underlying33 rfl ?_); refine ⟨_, _, _, rfl, HDD.out.2.1, Tryd.info_mvB _ _ _ _ _, ?_⟩)
          | ((with_reducible refine wpl_eql_mv rfl _ _ _ rfl ?_); refine ⟨((f : Int), (f : Int), 3, 0, false), ((f : Int), (f : Int), 3, 0, false), rfl, rfl, ?_⟩; rw [N.mv_selfF])
          | (go_at_call 9; (with_reducible refine (HS4.out _).mono ?_); rintro r v4 ⟨rfl, hb⟩; have HE := Lib.hid (HDD.out.1.next hb); have n2 := HE.out.m.cell 2; have n4 := (HDD.out.2.2.below hb).cell 4; rw [show (movC (f : Int) (f : Int) 3 0 false)[2]? = some (.int .u8 3) from rfl] at n2; rw [show (movC 0 0 0 0 false)[4]? = some (.bool false) from rfl] at n4; clear hb))
        go_ret
        exact ⟨by first | rfl | simp, HE.out.below⟩
      · clear hk2 hk6
        have eT : ((N.tx f ++ N.tx f) ++ (⟨#[63, 63, 110, 98, 114, 113, 107]⟩ : ByteArray).extract 4 5) = N.walk f f 4 := rfl
        have eQ : (((N.tx f ++ N.tx f) ++ (⟨#[63, 63, 110, 98, 114, 113, 107]⟩ : ByteArray).extract 4 5) ++ ⟨#[113]⟩) = N.mk f f (N.lowB 4 ++ [113]) := rfl
        obtain ⟨f1, g1, x1, y1, z1, e1, hP1, hPC1⟩ := mvParse_fix d ((N.tx f ++ N.tx f) ++ (⟨#[63, 63, 110, 98, 114, 113, 107]⟩ : ByteArray).extract 4 5) hd (Nat.le_of_ble_eq_true rfl)
        obtain ⟨f2, g2, x2, y2, z2, e2, hP2, hPC2⟩ := mvParse_fix d (((N.tx f ++ N.tx f) ++ (⟨#[63, 63, 110, 98, 114, 113, 107]⟩ : ByteArray).extract 4 5) ++ ⟨#[113]⟩) hd (Nat.le_of_ble_eq_true rfl)
        obtain ⟨S3, hS3, hSC3⟩ := mvText_fix d (f : Int) (f : Int) 4 0 true hd (by unfold MovOk; omega)
        obtain rfl : S3 = ⟨#[]⟩ := N.end_none hS3 (N.text_noCas hno)
        obtain ⟨S4, hS4, hSC4⟩ := mvText_fix d (f : Int) (f : Int) 4 0 false hd (by unfold MovOk; omega)
        rw [eT] at hP1
        rw [eQ] at hP2
        obtain ⟨rfl, rfl, rfl, rfl, rfl, rfl⟩ := N.parse_bad hkd hP1 (N.walk_same f _ hf)
        obtain ⟨rfl, rfl, rfl, rfl, rfl, rfl⟩ := N.parse_bad hkd hP2 (N.mk_same f _ hf)
        obtain rfl : S4 = ⟨#[]⟩ := N.textEnd_one hS4 (N.text_same (.inl rfl))
        have HP1 : Hid (∀ W, Calls Tryd.prog 12 #[.agg (posC d), .string ((N.tx f ++ N.tx f) ++ (⟨#[63, 63, 110, 98, 114, 113, 107]⟩ : ByteArray).extract 4 5)] W fun e w' => e = .returned (.tuple #[.agg (movC 0 0 0 0 false), .int .i64 5]) ∧ Below W.heap.size W w') := Lib.hid hPC1
        have HP2 : Hid (∀ W, Calls Tryd.prog 12 #[.agg (posC d), .string (((N.tx f ++ N.tx f) ++ (⟨#[63, 63, 110, 98, 114, 113, 107]⟩ : ByteArray).extract 4 5) ++ ⟨#[113]⟩)] W fun e w' => e = .returned (.tuple #[.agg (movC 0 0 0 0 false), .int .i64 5]) ∧ Below W.heap.size W w') := Lib.hid hPC2
        have HS3 : Hid (∀ W, Calls Tryd.prog 9 #[.agg (posC d), .agg (movC (f : Int) (f : Int) 4 0 true)] W fun e w' => e = .returned (.string ⟨#[]⟩) ∧ Below W.heap.size W w') := Lib.hid hSC3
        have HS4 : Hid (∀ W, Calls Tryd.prog 9 #[.agg (posC d), .agg (movC (f : Int) (f : Int) 4 0 false)] W fun e w' => e = .returned (.string ⟨#[]⟩) ∧ Below W.heap.size W w') := Lib.hid hSC4
        have z1 : (N.tx f).size + (N.tx f).size ≤ 9223372036854775807 := Nat.le_of_ble_eq_true rfl
        have z2 : (N.tx f ++ N.tx f).size + ((⟨#[63, 63, 110, 98, 114, 113, 107]⟩ : ByteArray).extract 4 5).size ≤ 9223372036854775807 := Nat.le_of_ble_eq_true rfl
        have z3 : (((N.tx f ++ N.tx f) ++ (⟨#[63, 63, 110, 98, 114, 113, 107]⟩ : ByteArray).extract 4 5)).size + (⟨#[113]⟩ : ByteArray).size ≤ 9223372036854775807 := Nat.le_of_ble_eq_true rfl
        have HF : Hid (∀ W, Calls Tryd.prog 13 #[.int .i64 (f : Int)] W fun e w' => e = .returned (.string (N.tx f)) ∧ Below W.heap.size W w') := Lib.hid (fun W => sqtext_any f W hf)
        clear eT eQ hP1 hP2 hPC1 hPC2 hS3 hSC3 hS4 hSC4 hno hkd hd hf
        generalize N.tx f = TF at *
        go_upto_region 15 with (first
          | (go_at_call 13; (with_reducible refine (HF.out _).mono ?_); rintro r wa ⟨rfl, hb⟩; first | (have HJ := Lib.hid (And.intro (HI.out.1.below hb) (below_next HI.out.2 hb))) | (have HI := Lib.hid (And.intro (HR.out.1.below hb) (below_next HR.out.2 hb))); clear hb)
          | (go_at_call 13; (with_reducible refine (HF.out _).mono ?_); rintro r wb ⟨rfl, hb⟩; have HJ := Lib.hid (And.intro (HI.out.1.below hb) (below_next HI.out.2 hb)); clear hb)
          | ((with_reducible refine wp_store_at rfl 5 _ _ rfl ?_); refine ⟨_, _, _, _, .int .u8 4, rfl, rfl, rfl, HM.out.m, (by show 2 < 5; omega), Tryd.size_u8, ?_⟩; intro V hV hR3; have HM2 := Lib.hid (show PlAt w d _ (movC (f : Int) (f : Int) 4 0 false) V from HM.out.put hV hR3); clear hV hR3)
          | ((with_reducible refine wp_store_row' rfl 33 _ _ rfl ?_); refine ⟨_, 33, movC (f : Int) (f : Int) 0 0 false, rfl, rfl, ⟨_, heap_alloc_new _ _, (by kernel_rfl)⟩, Tryd.info_mvB _ _ _ _ _, Tryd.one_mvB _ _ _ _ _, ?_⟩; intro V hP hq; have HM := Lib.hid (show PlAt w d _ (movC (f : Int) (f : Int) 0 0 false) V from ⟨hP.pos (HJ.out.1.alloc _) (Nat.ne_of_lt HJ.out.1.lt), hq, hP.below (HJ.out.2.alloc HJ.out.2.size _) HJ.out.2.size, HJ.out.1.lt⟩); clear hP hq))
        have HM := HM2
        go_upto_region 17 with (first
          | ((with_reducible refine wp_load_box_g rfl _ rfl ?_); refine ⟨_, d, rfl, HB1.out.1.p, ?_⟩)
          | ((with_reducible refine wp_load_box_g rfl _ rfl ?_); refine ⟨_, d, rfl, HM.out.p, ?_⟩)
          | (go_at_call 12; (with_reducible refine (HP1.out _).mono ?_); rintro r v1 ⟨rfl, hb⟩; have HA1 := Lib.hid (HM.out.next hb); clear hb)
          | (go_at_call 12; (with_reducible refine (HP2.out _).mono ?_); rintro r v2 ⟨rfl, hb⟩; have HA2 := Lib.hid (And.intro (HB1.out.1.next hb) (And.intro (HB1.out.2.1.below hb) HB1.out.2.2)); clear hb)
          | ((with_reducible refine wp_store_row' rfl 33 _ _ rfl ?_); refine ⟨v1.heap.size, 33, movC 0 0 0 0 false, rfl, rfl, ⟨_, heap_alloc_new _ _, (by kernel_rfl)⟩, Tryd.info_mvB _ _ _ _ _, Tryd.one_mvB _ _ _ _ _, ?_⟩; intro V1 hP hq; have HB1 := Lib.hid (And.intro (HA1.out.other hP) (And.intro hq (Nat.ne_of_gt HA1.out.m.lt))); clear hP hq)
          | ((with_reducible refine wp_store_row' rfl 33 _ _ rfl ?_); refine ⟨v2.heap.size, 33, movC 0 0 0 0 false, rfl, rfl, ⟨_, heap_alloc_new _ _, (by kernel_rfl)⟩, Tryd.info_mvB _ _ _ _ _, Tryd.one_mvB _ _ _ _ _, ?_⟩; intro V2 hP hq; have HB2 := Lib.hid (And.intro (HA2.out.1.other hP) (And.intro (hP.row (HA2.out.2.1.alloc _) (Nat.ne_of_lt HA2.out.2.1.lt)) (And.intro HA2.out.2.2 (And.intro hq (Nat.ne_of_gt HA2.out.1.m.lt))))); clear hP hq))
        go_upto_region 20 with (first
          | ((with_reducible refine wp_load_box_g rfl _ rfl ?_); refine ⟨_, d, rfl, HC1.out.1.p, ?_⟩)
          | ((with_reducible refine mv_load_rowG rfl 33 _ rfl Tryd.underlying33 rfl ?_); refine ⟨_, _, _, rfl, HC1.out.1.m, Tryd.info_mvB _ _ _ _ _, ?_⟩)
          | (go_at_call 9; (with_reducible refine (HS3.out _).mono ?_); rintro r v3 ⟨rfl, hb⟩; have HC2 := Lib.hid (And.intro (HC1.out.1.next hb) (And.intro (HC1.out.2.1.below hb) (And.intro HC1.out.2.2.1 (And.intro (HC1.out.2.2.2.1.below hb) HC1.out.2.2.2.2)))); clear hb)
          | ((with_reducible refine wp_store_at rfl 4 _ _ rfl ?_); refine ⟨_, _, _, _, .bool true, rfl, rfl, rfl, HB2.out.1.m, (by show 4 < 5; omega), Tryd.size_boolS, ?_⟩; intro V hV hR3; have HC1 := Lib.hid (And.intro (show PlAt w d _ (movC (f : Int) (f : Int) 4 0 true) V from HB2.out.1.put hV hR3) (And.intro (hV.row HB2.out.2.1 HB2.out.2.2.1) (And.intro HB2.out.2.2.1 (And.intro (hV.row HB2.out.2.2.2.1 HB2.out.2.2.2.2) HB2.out.2.2.2.2)))); clear hV hR3)
          | ((with_reducible refine wp_store_at rfl 4 _ _ rfl ?_); refine ⟨_, _, _, _, .bool false, rfl, rfl, rfl, HC2.out.1.m, (by show 4 < 5; omega), Tryd.size_boolS, ?_⟩; intro V hV hR3; have HC3 := Lib.hid (And.intro (show PlAt w d _ (movC (f : Int) (f : Int) 4 0 false) V from HC2.out.1.put hV hR3) (And.intro (hV.row HC2.out.2.1 HC2.out.2.2.1) (hV.row HC2.out.2.2.2.1 HC2.out.2.2.2.2))); clear hV hR3))
        have HDD := HC3
        clear HB2 HC1 HC2 HC3 HB1 HA1 HA2 HM
        go_wp2_with (first
          | ((with_reducible refine wp_load_box_g rfl _ rfl ?_); refine ⟨_, d, rfl, HDD.out.1.p, ?_⟩)
          | ((with_reducible refine mv_load_rowG rfl 33 _ rfl Tryd.underlying33 rfl ?_); refine ⟨_, _, _, rfl, HDD.out.1.m, Tryd.info_mvB _ _ _ _ _, ?_⟩)
          | ((with_reducible refine mv_load_rowG rfl 33 _ rfl Tryd.underlying33 rfl ?_); refine ⟨_, _, _, rfl, HDD.out.2.1, Tryd.info_mvB _ _ _ _ _, ?_⟩)
          | ((with_reducible refine wpl_eql_mv rfl _ _ _ rfl ?_); refine ⟨((f : Int), (f : Int), 4, 0, false), ((f : Int), (f : Int), 4, 0, false), rfl, rfl, ?_⟩; rw [N.mv_selfF])
          | (go_at_call 9; (with_reducible refine (HS4.out _).mono ?_); rintro r v4 ⟨rfl, hb⟩; have HE := Lib.hid (HDD.out.1.next hb); have n2 := HE.out.m.cell 2; have n4 := (HDD.out.2.2.below hb).cell 4; rw [show (movC (f : Int) (f : Int) 4 0 false)[2]? = some (.int .u8 4) from rfl] at n2; rw [show (movC 0 0 0 0 false)[4]? = some (.bool false) from rfl] at n4; clear hb))
        go_ret
        exact ⟨by first | rfl | simp, HE.out.below⟩
      · clear hk2 hk6
        have eT : ((N.tx f ++ N.tx f) ++ (⟨#[63, 63, 110, 98, 114, 113, 107]⟩ : ByteArray).extract 5 6) = N.walk f f 5 := rfl
        have eQ : (((N.tx f ++ N.tx f) ++ (⟨#[63, 63, 110, 98, 114, 113, 107]⟩ : ByteArray).extract 5 6) ++ ⟨#[113]⟩) = N.mk f f (N.lowB 5 ++ [113]) := rfl
        obtain ⟨f1, g1, x1, y1, z1, e1, hP1, hPC1⟩ := mvParse_fix d ((N.tx f ++ N.tx f) ++ (⟨#[63, 63, 110, 98, 114, 113, 107]⟩ : ByteArray).extract 5 6) hd (Nat.le_of_ble_eq_true rfl)
        obtain ⟨f2, g2, x2, y2, z2, e2, hP2, hPC2⟩ := mvParse_fix d (((N.tx f ++ N.tx f) ++ (⟨#[63, 63, 110, 98, 114, 113, 107]⟩ : ByteArray).extract 5 6) ++ ⟨#[113]⟩) hd (Nat.le_of_ble_eq_true rfl)
        obtain ⟨S3, hS3, hSC3⟩ := mvText_fix d (f : Int) (f : Int) 5 0 true hd (by unfold MovOk; omega)
        obtain rfl : S3 = ⟨#[]⟩ := N.end_none hS3 (N.text_noCas hno)
        obtain ⟨S4, hS4, hSC4⟩ := mvText_fix d (f : Int) (f : Int) 5 0 false hd (by unfold MovOk; omega)
        rw [eT] at hP1
        rw [eQ] at hP2
        obtain ⟨rfl, rfl, rfl, rfl, rfl, rfl⟩ := N.parse_bad hkd hP1 (N.walk_same f _ hf)
        obtain ⟨rfl, rfl, rfl, rfl, rfl, rfl⟩ := N.parse_bad hkd hP2 (N.mk_same f _ hf)
        obtain rfl : S4 = ⟨#[]⟩ := N.textEnd_one hS4 (N.text_same (.inl rfl))
        have HP1 : Hid (∀ W, Calls Tryd.prog 12 #[.agg (posC d), .string ((N.tx f ++ N.tx f) ++ (⟨#[63, 63, 110, 98, 114, 113, 107]⟩ : ByteArray).extract 5 6)] W fun e w' => e = .returned (.tuple #[.agg (movC 0 0 0 0 false), .int .i64 5]) ∧ Below W.heap.size W w') := Lib.hid hPC1
        have HP2 : Hid (∀ W, Calls Tryd.prog 12 #[.agg (posC d), .string (((N.tx f ++ N.tx f) ++ (⟨#[63, 63, 110, 98, 114, 113, 107]⟩ : ByteArray).extract 5 6) ++ ⟨#[113]⟩)] W fun e w' => e = .returned (.tuple #[.agg (movC 0 0 0 0 false), .int .i64 5]) ∧ Below W.heap.size W w') := Lib.hid hPC2
        have HS3 : Hid (∀ W, Calls Tryd.prog 9 #[.agg (posC d), .agg (movC (f : Int) (f : Int) 5 0 true)] W fun e w' => e = .returned (.string ⟨#[]⟩) ∧ Below W.heap.size W w') := Lib.hid hSC3
        have HS4 : Hid (∀ W, Calls Tryd.prog 9 #[.agg (posC d), .agg (movC (f : Int) (f : Int) 5 0 false)] W fun e w' => e = .returned (.string ⟨#[]⟩) ∧ Below W.heap.size W w') := Lib.hid hSC4
        have z1 : (N.tx f).size + (N.tx f).size ≤ 9223372036854775807 := Nat.le_of_ble_eq_true rfl
        have z2 : (N.tx f ++ N.tx f).size + ((⟨#[63, 63, 110, 98, 114, 113, 107]⟩ : ByteArray).extract 5 6).size ≤ 9223372036854775807 := Nat.le_of_ble_eq_true rfl
        have z3 : (((N.tx f ++ N.tx f) ++ (⟨#[63, 63, 110, 98, 114, 113, 107]⟩ : ByteArray).extract 5 6)).size + (⟨#[113]⟩ : ByteArray).size ≤ 9223372036854775807 := Nat.le_of_ble_eq_true rfl
        have HF : Hid (∀ W, Calls Tryd.prog 13 #[.int .i64 (f : Int)] W fun e w' => e = .returned (.string (N.tx f)) ∧ Below W.heap.size W w') := Lib.hid (fun W => sqtext_any f W hf)
        clear eT eQ hP1 hP2 hPC1 hPC2 hS3 hSC3 hS4 hSC4 hno hkd hd hf
        generalize N.tx f = TF at *
        go_upto_region 15 with (first
          | (go_at_call 13; (with_reducible refine (HF.out _).mono ?_); rintro r wa ⟨rfl, hb⟩; first | (have HJ := Lib.hid (And.intro (HI.out.1.below hb) (below_next HI.out.2 hb))) | (have HI := Lib.hid (And.intro (HR.out.1.below hb) (below_next HR.out.2 hb))); clear hb)
          | (go_at_call 13; (with_reducible refine (HF.out _).mono ?_); rintro r wb ⟨rfl, hb⟩; have HJ := Lib.hid (And.intro (HI.out.1.below hb) (below_next HI.out.2 hb)); clear hb)
          | ((with_reducible refine wp_store_at rfl 5 _ _ rfl ?_); refine ⟨_, _, _, _, .int .u8 5, rfl, rfl, rfl, HM.out.m, (by show 2 < 5; omega), Tryd.size_u8, ?_⟩; intro V hV hR3; have HM2 := Lib.hid (show PlAt w d _ (movC (f : Int) (f : Int) 5 0 false) V from HM.out.put hV hR3); clear hV hR3)
          | ((with_reducible refine wp_store_row' rfl 33 _ _ rfl ?_); refine ⟨_, 33, movC (f : Int) (f : Int) 0 0 false, rfl, rfl, ⟨_, heap_alloc_new _ _, (by kernel_rfl)⟩, Tryd.info_mvB _ _ _ _ _, Tryd.one_mvB _ _ _ _ _, ?_⟩; intro V hP hq; have HM := Lib.hid (show PlAt w d _ (movC (f : Int) (f : Int) 0 0 false) V from ⟨hP.pos (HJ.out.1.alloc _) (Nat.ne_of_lt HJ.out.1.lt), hq, hP.below (HJ.out.2.alloc HJ.out.2.size _) HJ.out.2.size, HJ.out.1.lt⟩); clear hP hq))
        have HM := HM2
        go_upto_region 17 with (first
          | ((with_reducible refine wp_load_box_g rfl _ rfl ?_); refine ⟨_, d, rfl, HB1.out.1.p, ?_⟩)
          | ((with_reducible refine wp_load_box_g rfl _ rfl ?_); refine ⟨_, d, rfl, HM.out.p, ?_⟩)
          | (go_at_call 12; (with_reducible refine (HP1.out _).mono ?_); rintro r v1 ⟨rfl, hb⟩; have HA1 := Lib.hid (HM.out.next hb); clear hb)
          | (go_at_call 12; (with_reducible refine (HP2.out _).mono ?_); rintro r v2 ⟨rfl, hb⟩; have HA2 := Lib.hid (And.intro (HB1.out.1.next hb) (And.intro (HB1.out.2.1.below hb) HB1.out.2.2)); clear hb)
          | ((with_reducible refine wp_store_row' rfl 33 _ _ rfl ?_); refine ⟨v1.heap.size, 33, movC 0 0 0 0 false, rfl, rfl, ⟨_, heap_alloc_new _ _, (by kernel_rfl)⟩, Tryd.info_mvB _ _ _ _ _, Tryd.one_mvB _ _ _ _ _, ?_⟩; intro V1 hP hq; have HB1 := Lib.hid (And.intro (HA1.out.other hP) (And.intro hq (Nat.ne_of_gt HA1.out.m.lt))); clear hP hq)
          | ((with_reducible refine wp_store_row' rfl 33 _ _ rfl ?_); refine ⟨v2.heap.size, 33, movC 0 0 0 0 false, rfl, rfl, ⟨_, heap_alloc_new _ _, (by kernel_rfl)⟩, Tryd.info_mvB _ _ _ _ _, Tryd.one_mvB _ _ _ _ _, ?_⟩; intro V2 hP hq; have HB2 := Lib.hid (And.intro (HA2.out.1.other hP) (And.intro (hP.row (HA2.out.2.1.alloc _) (Nat.ne_of_lt HA2.out.2.1.lt)) (And.intro HA2.out.2.2 (And.intro hq (Nat.ne_of_gt HA2.out.1.m.lt))))); clear hP hq))
        go_upto_region 20 with (first
          | ((with_reducible refine wp_load_box_g rfl _ rfl ?_); refine ⟨_, d, rfl, HC1.out.1.p, ?_⟩)
          | ((with_reducible refine mv_load_rowG rfl 33 _ rfl Tryd.underlying33 rfl ?_); refine ⟨_, _, _, rfl, HC1.out.1.m, Tryd.info_mvB _ _ _ _ _, ?_⟩)
          | (go_at_call 9; (with_reducible refine (HS3.out _).mono ?_); rintro r v3 ⟨rfl, hb⟩; have HC2 := Lib.hid (And.intro (HC1.out.1.next hb) (And.intro (HC1.out.2.1.below hb) (And.intro HC1.out.2.2.1 (And.intro (HC1.out.2.2.2.1.below hb) HC1.out.2.2.2.2)))); clear hb)
          | ((with_reducible refine wp_store_at rfl 4 _ _ rfl ?_); refine ⟨_, _, _, _, .bool true, rfl, rfl, rfl, HB2.out.1.m, (by show 4 < 5; omega), Tryd.size_boolS, ?_⟩; intro V hV hR3; have HC1 := Lib.hid (And.intro (show PlAt w d _ (movC (f : Int) (f : Int) 5 0 true) V from HB2.out.1.put hV hR3) (And.intro (hV.row HB2.out.2.1 HB2.out.2.2.1) (And.intro HB2.out.2.2.1 (And.intro (hV.row HB2.out.2.2.2.1 HB2.out.2.2.2.2) HB2.out.2.2.2.2)))); clear hV hR3)
          | ((with_reducible refine wp_store_at rfl 4 _ _ rfl ?_); refine ⟨_, _, _, _, .bool false, rfl, rfl, rfl, HC2.out.1.m, (by show 4 < 5; omega), Tryd.size_boolS, ?_⟩; intro V hV hR3; have HC3 := Lib.hid (And.intro (show PlAt w d _ (movC (f : Int) (f : Int) 5 0 false) V from HC2.out.1.put hV hR3) (And.intro (hV.row HC2.out.2.1 HC2.out.2.2.1) (hV.row HC2.out.2.2.2.1 HC2.out.2.2.2.2))); clear hV hR3))
        have HDD := HC3
        clear HB2 HC1 HC2 HC3 HB1 HA1 HA2 HM
        go_wp2_with (first
          | ((with_reducible refine wp_load_box_g rfl _ rfl ?_); refine ⟨_, d, rfl, HDD.out.1.p, ?_⟩)
          | ((with_reducible refine mv_load_rowG rfl 33 _ rfl Tryd.underlying33 rfl ?_); refine ⟨_, _, _, rfl, HDD.out.1.m, Tryd.info_mvB _ _ _ _ _, ?_⟩)
          | ((with_reducible refine mv_load_rowG rfl 33 _ rfl Tryd.underlying33 rfl ?_); refine ⟨_, _, _, rfl, HDD.out.2.1, Tryd.info_mvB _ _ _ _ _, ?_⟩)
          | ((with_reducible refine wpl_eql_mv rfl _ _ _ rfl ?_); refine ⟨((f : Int), (f : Int), 5, 0, false), ((f : Int), (f : Int), 5, 0, false), rfl, rfl, ?_⟩; rw [N.mv_selfF])
          | (go_at_call 9; (with_reducible refine (HS4.out _).mono ?_); rintro r v4 ⟨rfl, hb⟩; have HE := Lib.hid (HDD.out.1.next hb); have n2 := HE.out.m.cell 2; have n4 := (HDD.out.2.2.below hb).cell 4; rw [show (movC (f : Int) (f : Int) 5 0 false)[2]? = some (.int .u8 5) from rfl] at n2; rw [show (movC 0 0 0 0 false)[4]? = some (.bool false) from rfl] at n4; clear hb))
        go_ret
        exact ⟨by first | rfl | simp, HE.out.below⟩
      · clear hk2 hk6
        have eT : ((N.tx f ++ N.tx f) ++ (⟨#[63, 63, 110, 98, 114, 113, 107]⟩ : ByteArray).extract 6 7) = N.walk f f 6 := rfl
        have eQ : (((N.tx f ++ N.tx f) ++ (⟨#[63, 63, 110, 98, 114, 113, 107]⟩ : ByteArray).extract 6 7) ++ ⟨#[113]⟩) = N.mk f f (N.lowB 6 ++ [113]) := rfl
        obtain ⟨f1, g1, x1, y1, z1, e1, hP1, hPC1⟩ := mvParse_fix d ((N.tx f ++ N.tx f) ++ (⟨#[63, 63, 110, 98, 114, 113, 107]⟩ : ByteArray).extract 6 7) hd (Nat.le_of_ble_eq_true rfl)
        obtain ⟨f2, g2, x2, y2, z2, e2, hP2, hPC2⟩ := mvParse_fix d (((N.tx f ++ N.tx f) ++ (⟨#[63, 63, 110, 98, 114, 113, 107]⟩ : ByteArray).extract 6 7) ++ ⟨#[113]⟩) hd (Nat.le_of_ble_eq_true rfl)
        obtain ⟨S3, hS3, hSC3⟩ := mvText_fix d (f : Int) (f : Int) 6 0 true hd (by unfold MovOk; omega)
        obtain rfl : S3 = ⟨#[]⟩ := N.end_none hS3 (N.text_noCas hno)
        obtain ⟨S4, hS4, hSC4⟩ := mvText_fix d (f : Int) (f : Int) 6 0 false hd (by unfold MovOk; omega)
        rw [eT] at hP1
        rw [eQ] at hP2
        obtain ⟨rfl, rfl, rfl, rfl, rfl, rfl⟩ := N.parse_bad hkd hP1 (N.walk_same f _ hf)
        obtain ⟨rfl, rfl, rfl, rfl, rfl, rfl⟩ := N.parse_bad hkd hP2 (N.mk_same f _ hf)
        obtain rfl : S4 = ⟨#[]⟩ := N.textEnd_one hS4 (N.text_same (.inl rfl))
        have HP1 : Hid (∀ W, Calls Tryd.prog 12 #[.agg (posC d), .string ((N.tx f ++ N.tx f) ++ (⟨#[63, 63, 110, 98, 114, 113, 107]⟩ : ByteArray).extract 6 7)] W fun e w' => e = .returned (.tuple #[.agg (movC 0 0 0 0 false), .int .i64 5]) ∧ Below W.heap.size W w') := Lib.hid hPC1
        have HP2 : Hid (∀ W, Calls Tryd.prog 12 #[.agg (posC d), .string (((N.tx f ++ N.tx f) ++ (⟨#[63, 63, 110, 98, 114, 113, 107]⟩ : ByteArray).extract 6 7) ++ ⟨#[113]⟩)] W fun e w' => e = .returned (.tuple #[.agg (movC 0 0 0 0 false), .int .i64 5]) ∧ Below W.heap.size W w') := Lib.hid hPC2
        have HS3 : Hid (∀ W, Calls Tryd.prog 9 #[.agg (posC d), .agg (movC (f : Int) (f : Int) 6 0 true)] W fun e w' => e = .returned (.string ⟨#[]⟩) ∧ Below W.heap.size W w') := Lib.hid hSC3
        have HS4 : Hid (∀ W, Calls Tryd.prog 9 #[.agg (posC d), .agg (movC (f : Int) (f : Int) 6 0 false)] W fun e w' => e = .returned (.string ⟨#[]⟩) ∧ Below W.heap.size W w') := Lib.hid hSC4
        have z1 : (N.tx f).size + (N.tx f).size ≤ 9223372036854775807 := Nat.le_of_ble_eq_true rfl
        have z2 : (N.tx f ++ N.tx f).size + ((⟨#[63, 63, 110, 98, 114, 113, 107]⟩ : ByteArray).extract 6 7).size ≤ 9223372036854775807 := Nat.le_of_ble_eq_true rfl
        have z3 : (((N.tx f ++ N.tx f) ++ (⟨#[63, 63, 110, 98, 114, 113, 107]⟩ : ByteArray).extract 6 7)).size + (⟨#[113]⟩ : ByteArray).size ≤ 9223372036854775807 := Nat.le_of_ble_eq_true rfl
        have HF : Hid (∀ W, Calls Tryd.prog 13 #[.int .i64 (f : Int)] W fun e w' => e = .returned (.string (N.tx f)) ∧ Below W.heap.size W w') := Lib.hid (fun W => sqtext_any f W hf)
        clear eT eQ hP1 hP2 hPC1 hPC2 hS3 hSC3 hS4 hSC4 hno hkd hd hf
        generalize N.tx f = TF at *
        go_upto_region 15 with (first
          | (go_at_call 13; (with_reducible refine (HF.out _).mono ?_); rintro r wa ⟨rfl, hb⟩; first | (have HJ := Lib.hid (And.intro (HI.out.1.below hb) (below_next HI.out.2 hb))) | (have HI := Lib.hid (And.intro (HR.out.1.below hb) (below_next HR.out.2 hb))); clear hb)
          | (go_at_call 13; (with_reducible refine (HF.out _).mono ?_); rintro r wb ⟨rfl, hb⟩; have HJ := Lib.hid (And.intro (HI.out.1.below hb) (below_next HI.out.2 hb)); clear hb)
          | ((with_reducible refine wp_store_at rfl 5 _ _ rfl ?_); refine ⟨_, _, _, _, .int .u8 6, rfl, rfl, rfl, HM.out.m, (by show 2 < 5; omega), Tryd.size_u8, ?_⟩; intro V hV hR3; have HM2 := Lib.hid (show PlAt w d _ (movC (f : Int) (f : Int) 6 0 false) V from HM.out.put hV hR3); clear hV hR3)
          | ((with_reducible refine wp_store_row' rfl 33 _ _ rfl ?_); refine ⟨_, 33, movC (f : Int) (f : Int) 0 0 false, rfl, rfl, ⟨_, heap_alloc_new _ _, (by kernel_rfl)⟩, Tryd.info_mvB _ _ _ _ _, Tryd.one_mvB _ _ _ _ _, ?_⟩; intro V hP hq; have HM := Lib.hid (show PlAt w d _ (movC (f : Int) (f : Int) 0 0 false) V from ⟨hP.pos (HJ.out.1.alloc _) (Nat.ne_of_lt HJ.out.1.lt), hq, hP.below (HJ.out.2.alloc HJ.out.2.size _) HJ.out.2.size, HJ.out.1.lt⟩); clear hP hq))
        have HM := HM2
        go_upto_region 17 with (first
          | ((with_reducible refine wp_load_box_g rfl _ rfl ?_); refine ⟨_, d, rfl, HB1.out.1.p, ?_⟩)
          | ((with_reducible refine wp_load_box_g rfl _ rfl ?_); refine ⟨_, d, rfl, HM.out.p, ?_⟩)
          | (go_at_call 12; (with_reducible refine (HP1.out _).mono ?_); rintro r v1 ⟨rfl, hb⟩; have HA1 := Lib.hid (HM.out.next hb); clear hb)
          | (go_at_call 12; (with_reducible refine (HP2.out _).mono ?_); rintro r v2 ⟨rfl, hb⟩; have HA2 := Lib.hid (And.intro (HB1.out.1.next hb) (And.intro (HB1.out.2.1.below hb) HB1.out.2.2)); clear hb)
          | ((with_reducible refine wp_store_row' rfl 33 _ _ rfl ?_); refine ⟨v1.heap.size, 33, movC 0 0 0 0 false, rfl, rfl, ⟨_, heap_alloc_new _ _, (by kernel_rfl)⟩, Tryd.info_mvB _ _ _ _ _, Tryd.one_mvB _ _ _ _ _, ?_⟩; intro V1 hP hq; have HB1 := Lib.hid (And.intro (HA1.out.other hP) (And.intro hq (Nat.ne_of_gt HA1.out.m.lt))); clear hP hq)
          | ((with_reducible refine wp_store_row' rfl 33 _ _ rfl ?_); refine ⟨v2.heap.size, 33, movC 0 0 0 0 false, rfl, rfl, ⟨_, heap_alloc_new _ _, (by kernel_rfl)⟩, Tryd.info_mvB _ _ _ _ _, Tryd.one_mvB _ _ _ _ _, ?_⟩; intro V2 hP hq; have HB2 := Lib.hid (And.intro (HA2.out.1.other hP) (And.intro (hP.row (HA2.out.2.1.alloc _) (Nat.ne_of_lt HA2.out.2.1.lt)) (And.intro HA2.out.2.2 (And.intro hq (Nat.ne_of_gt HA2.out.1.m.lt))))); clear hP hq))
        go_upto_region 20 with (first
          | ((with_reducible refine wp_load_box_g rfl _ rfl ?_); refine ⟨_, d, rfl, HC1.out.1.p, ?_⟩)
          | ((with_reducible refine mv_load_rowG rfl 33 _ rfl Tryd.underlying33 rfl ?_); refine ⟨_, _, _, rfl, HC1.out.1.m, Tryd.info_mvB _ _ _ _ _, ?_⟩)
          | (go_at_call 9; (with_reducible refine (HS3.out _).mono ?_); rintro r v3 ⟨rfl, hb⟩; have HC2 := Lib.hid (And.intro (HC1.out.1.next hb) (And.intro (HC1.out.2.1.below hb) (And.intro HC1.out.2.2.1 (And.intro (HC1.out.2.2.2.1.below hb) HC1.out.2.2.2.2)))); clear hb)
          | ((with_reducible refine wp_store_at rfl 4 _ _ rfl ?_); refine ⟨_, _, _, _, .bool true, rfl, rfl, rfl, HB2.out.1.m, (by show 4 < 5; omega), Tryd.size_boolS, ?_⟩; intro V hV hR3; have HC1 := Lib.hid (And.intro (show PlAt w d _ (movC (f : Int) (f : Int) 6 0 true) V from HB2.out.1.put hV hR3) (And.intro (hV.row HB2.out.2.1 HB2.out.2.2.1) (And.intro HB2.out.2.2.1 (And.intro (hV.row HB2.out.2.2.2.1 HB2.out.2.2.2.2) HB2.out.2.2.2.2)))); clear hV hR3)
          | ((with_reducible refine wp_store_at rfl 4 _ _ rfl ?_); refine ⟨_, _, _, _, .bool false, rfl, rfl, rfl, HC2.out.1.m, (by show 4 < 5; omega), Tryd.size_boolS, ?_⟩; intro V hV hR3; have HC3 := Lib.hid (And.intro (show PlAt w d _ (movC (f : Int) (f : Int) 6 0 false) V from HC2.out.1.put hV hR3) (And.intro (hV.row HC2.out.2.1 HC2.out.2.2.1) (hV.row HC2.out.2.2.2.1 HC2.out.2.2.2.2))); clear hV hR3))
        have HDD := HC3
        clear HB2 HC1 HC2 HC3 HB1 HA1 HA2 HM
        go_wp2_with (first
          | ((with_reducible refine wp_load_box_g rfl _ rfl ?_); refine ⟨_, d, rfl, HDD.out.1.p, ?_⟩)
          | ((with_reducible refine mv_load_rowG rfl 33 _ rfl Tryd.underlying33 rfl ?_); refine ⟨_, _, _, rfl, HDD.out.1.m, Tryd.info_mvB _ _ _ _ _, ?_⟩)
          | ((with_reducible refine mv_load_rowG rfl 33 _ rfl Tryd.underlying33 rfl ?_); refine ⟨_, _, _, rfl, HDD.out.2.1, Tryd.info_mvB _ _ _ _ _, ?_⟩)
          | ((with_reducible refine wpl_eql_mv rfl _ _ _ rfl ?_); refine ⟨((f : Int), (f : Int), 6, 0, false), ((f : Int), (f : Int), 6, 0, false), rfl, rfl, ?_⟩; rw [N.mv_selfF])
          | (go_at_call 9; (with_reducible refine (HS4.out _).mono ?_); rintro r v4 ⟨rfl, hb⟩; have HE := Lib.hid (HDD.out.1.next hb); have n2 := HE.out.m.cell 2; have n4 := (HDD.out.2.2.below hb).cell 4; rw [show (movC (f : Int) (f : Int) 6 0 false)[2]? = some (.int .u8 6) from rfl] at n2; rw [show (movC 0 0 0 0 false)[4]? = some (.bool false) from rfl] at n4; clear hb))
        go_ret
        exact ⟨by first | rfl | simp, HE.out.below⟩

set_option maxRecDepth 100000 in
set_option maxHeartbeats 16000000 in
theorem movesPlain_other (c : Nat → Int) (f g : Nat) (k : Int) (w : World) (hc : PosOk c) (hk : N.known c) (hf : f < 64) (hg : g < 64) (hne : f ≠ g) :
    Calls Tryd.prog 6 #[.agg (posC c), .int .i8 (f : Int), .int .i8 (g : Int), .int .u8 k] w fun e w' => e = .returned (.bool true) ∧ Below w.heap.size w w' := by
  have H0 := Lib.hid (And.intro (PosAt.new w c) ((Below.refl _ w).alloc (Nat.le_refl _) (.cells (posC c) 31)))
  have hk0 := hk.1
  have hk1 := hk.2
  have d0 : decide (9 ≤ c 0) = false := by simp; omega
  have d1 : decide (1 < c 78) = false := by simp; omega
  have d2 : decide ((f : Int) < 0) = false := by simp
  have d3 : decide (63 < (f : Int)) = false := by simp; omega
  have d4 : decide ((g : Int) < 0) = false := by simp
  have d5 : decide (63 < (g : Int)) = false := by simp; omega
  have wg := i8_i64 hg
  have fg : ((f : Int) == (g : Int)) = false := by simp; omega
  have wf := i8_i64 hf
  have hd := N.wipe_ok hc
  have hkd := N.wipe_known hk
  have hno := N.wipe_none hk
  clear hk0 hk1 hk hc
  go_enter Tryd.func6, Tryd.ntmps6
  go_wp2_with (go_at_call 11; (with_reducible refine (awake11_any _).mono ?_); rintro r w1 ⟨rfl, hb⟩; have H1 := Lib.hid (And.intro (H0.out.1.below hb) (below_next H0.out.2 hb)); have c0 := H1.out.1.cell (i := 0) (by decide); have c78 := H1.out.1.cell (i := 78) (by decide); rw [show pk 0 = .u8 from rfl] at c0; rw [show pk 78 = .u8 from rfl] at c78; clear hb)
  have HZ := Lib.hid (show PosAt w1 w.heap.size (N.wipe c 0) from (N.wipe_zero c).symm ▸ H1.out.1)
  clear c0 c78 d0 d1
  go_loopw [9] (fun i wr => ∃ n : Nat, n ≤ 64 ∧ i = .int .i64 (n : Int) ∧ PosAt wr w.heap.size (N.wipe c n) ∧ Below w.heap.size w wr) (fun i _ => 64 - (intOf i).toNat)
  case atStart => exact ⟨0, Nat.zero_le _, rfl, HZ.out, H1.out.2⟩
  case round =>
    obtain ⟨n, hn, rfl, hp, hbr⟩ := hrel
    by_cases hlt : n < 64
    · have bd := hp.bd hlt
      rw [N.wipe_far c (show n < 1 + n by omega)] at bd
      have hlp := hp.lt
      have HR := Lib.hid (And.intro hp hbr)
      clear hp hbr hd hkd hno
      by_cases h6 : c (1 + n) = 6 ∨ c (1 + n) = 14
      · have HY := Lib.hid (N.wipe_yes h6)
        by_cases h6a : c (1 + n) = 6
        · have k6 : (c (1 + n) == 6) = true := by simpa using h6a
          clear h6 h6a
          go_wp2_with ((with_reducible refine wp_store_cell rfl _ _ _ rfl ?_); refine ⟨w.heap.size, 1 + n, N.wipe c n, 0, .u8, rfl, rfl, HR.out.1, (by omega), pk_board hlt, Tryd.size_u8, ?_⟩; intro V hP hq; have HV := Lib.hid (And.intro (HY.out ▸ hq) (hP.below HR.out.2 (Nat.le_refl _))); clear hP hq)
          go_roundw
          case rel => exact ⟨n + 1, by omega, by go_num, HV.out.1, HV.out.2⟩
          case measure => simp [intOf]; omega
        · have k6 : (c (1 + n) == 6) = false := by simpa using h6a
          have k14 : (c (1 + n) == 14) = true := by simp; omega
          clear h6 h6a
          go_wp2_with ((with_reducible refine wp_store_cell rfl _ _ _ rfl ?_); refine ⟨w.heap.size, 1 + n, N.wipe c n, 0, .u8, rfl, rfl, HR.out.1, (by omega), pk_board hlt, Tryd.size_u8, ?_⟩; intro V hP hq; have HV := Lib.hid (And.intro (HY.out ▸ hq) (hP.below HR.out.2 (Nat.le_refl _))); clear hP hq)
          go_roundw
          case rel => exact ⟨n + 1, by omega, by go_num, HV.out.1, HV.out.2⟩
          case measure => simp [intOf]; omega
      · have HY := Lib.hid (N.wipe_no h6)
        have k6 : (c (1 + n) == 6) = false := by simp; omega
        have k14 : (c (1 + n) == 14) = false := by simp; omega
        clear h6
        go_wp2
        go_roundw
        case rel => exact ⟨n + 1, by omega, by go_num, HY.out ▸ HR.out.1, HR.out.2⟩
        case measure => simp [intOf]; omega
    · obtain rfl : n = 64 := by omega
      obtain ⟨d, hD⟩ : ∃ d, N.wipe c 64 = d := ⟨_, rfl⟩
      rw [hD] at hp hd hkd hno
      have HR := Lib.hid (And.intro hp hbr)
      clear hp hbr hn hD H0 H1 HZ
      by_cases hk2 : k < 2
      · have dk2 : decide (2 ≤ k) = false := by simp; omega
        have eT : (N.tx f ++ N.tx g) = N.walk f g 0 := rfl
        have eQ : ((N.tx f ++ N.tx g) ++ ⟨#[113]⟩) = N.walk f g 5 := rfl
        obtain ⟨f1, g1, x1, y1, z1, e1, hP1, hPC1⟩ := mvParse_fix d (N.tx f ++ N.tx g) hd (Nat.le_of_ble_eq_true rfl)
        obtain ⟨f2, g2, x2, y2, z2, e2, hP2, hPC2⟩ := mvParse_fix d ((N.tx f ++ N.tx g) ++ ⟨#[113]⟩) hd (Nat.le_of_ble_eq_true rfl)
        obtain ⟨S3, hS3, hSC3⟩ := mvText_fix d (f : Int) (g : Int) 0 0 true hd (by unfold MovOk; omega)
        obtain rfl : S3 = ⟨#[]⟩ := N.end_none hS3 (N.text_noCas hno)
        obtain ⟨S4, hS4, hSC4⟩ := mvText_fix d (f : Int) (g : Int) 0 0 false hd (by unfold MovOk; omega)
        rw [eT] at hP1
        rw [eQ] at hP2
        have hTx := N.text_walk_is (x := 0) hkd hf hg hne (by decide) (hno _)
        obtain ⟨rfl, rfl, rfl, rfl, rfl, rfl⟩ := N.parse_ok hP1 hTx
        obtain rfl : S4 = N.walk f g 0 := N.end_of hS4 hTx
        rw [← eT] at hSC4
        obtain ⟨rfl, rfl, rfl, rfl, rfl, rfl⟩ := N.parse_ok hP2 (N.text_walk_is (x := 5) hkd hf hg hne (by decide) (hno _))
        have HP1 : Hid (∀ W, Calls Tryd.prog 12 #[.agg (posC d), .string (N.tx f ++ N.tx g)] W fun e w' => e = .returned (.tuple #[.agg (movC (f : Int) (g : Int) 0 0 false), .int .i64 0]) ∧ Below W.heap.size W w') := Lib.hid hPC1
        have HP2 : Hid (∀ W, Calls Tryd.prog 12 #[.agg (posC d), .string ((N.tx f ++ N.tx g) ++ ⟨#[113]⟩)] W fun e w' => e = .returned (.tuple #[.agg (movC (f : Int) (g : Int) 5 0 false), .int .i64 0]) ∧ Below W.heap.size W w') := Lib.hid hPC2
        have HS3 : Hid (∀ W, Calls Tryd.prog 9 #[.agg (posC d), .agg (movC (f : Int) (g : Int) 0 0 true)] W fun e w' => e = .returned (.string ⟨#[]⟩) ∧ Below W.heap.size W w') := Lib.hid hSC3
        have HS4 : Hid (∀ W, Calls Tryd.prog 9 #[.agg (posC d), .agg (movC (f : Int) (g : Int) 0 0 false)] W fun e w' => e = .returned (.string (N.tx f ++ N.tx g)) ∧ Below W.heap.size W w') := Lib.hid hSC4
        have z1 : (N.tx f).size + (N.tx g).size ≤ 9223372036854775807 := Nat.le_of_ble_eq_true rfl
        have z3 : ((N.tx f ++ N.tx g)).size + (⟨#[113]⟩ : ByteArray).size ≤ 9223372036854775807 := Nat.le_of_ble_eq_true rfl
        have HF : Hid (∀ W, Calls Tryd.prog 13 #[.int .i64 (f : Int)] W fun e w' => e = .returned (.string (N.tx f)) ∧ Below W.heap.size W w') := Lib.hid (fun W => sqtext_any f W hf)
        have HG : Hid (∀ W, Calls Tryd.prog 13 #[.int .i64 (g : Int)] W fun e w' => e = .returned (.string (N.tx g)) ∧ Below W.heap.size W w') := Lib.hid (fun W => sqtext_any g W hg)
        clear eT eQ hP1 hP2 hPC1 hPC2 hS3 hSC3 hS4 hSC4 hno hkd hd hTx hne hg hf hk2
        generalize N.tx g = TG at *
        generalize N.tx f = TF at *
        go_upto_region 15 with (first
          | (go_at_call 13; (with_reducible refine (HF.out _).mono ?_); rintro r wa ⟨rfl, hb⟩; first | (have HJ := Lib.hid (And.intro (HI.out.1.below hb) (below_next HI.out.2 hb))) | (have HI := Lib.hid (And.intro (HR.out.1.below hb) (below_next HR.out.2 hb))); clear hb)
          | (go_at_call 13; (with_reducible refine (HG.out _).mono ?_); rintro r wb ⟨rfl, hb⟩; have HJ := Lib.hid (And.intro (HI.out.1.below hb) (below_next HI.out.2 hb)); clear hb)
          | ((with_reducible refine wp_store_at rfl 5 _ _ rfl ?_); refine ⟨_, _, _, _, .int .u8 k, rfl, rfl, rfl, HM.out.m, (by show 2 < 5; omega), Tryd.size_u8, ?_⟩; intro V hV hR3; have HM2 := Lib.hid (show PlAt w d _ (movC (f : Int) (g : Int) 0 0 false) V from HM.out.put hV hR3); clear hV hR3)
          | ((with_reducible refine wp_store_row' rfl 33 _ _ rfl ?_); refine ⟨_, 33, movC (f : Int) (g : Int) 0 0 false, rfl, rfl, ⟨_, heap_alloc_new _ _, (by kernel_rfl)⟩, Tryd.info_mvB _ _ _ _ _, Tryd.one_mvB _ _ _ _ _, ?_⟩; intro V hP hq; have HM := Lib.hid (show PlAt w d _ (movC (f : Int) (g : Int) 0 0 false) V from ⟨hP.pos (HJ.out.1.alloc _) (Nat.ne_of_lt HJ.out.1.lt), hq, hP.below (HJ.out.2.alloc HJ.out.2.size _) HJ.out.2.size, HJ.out.1.lt⟩); clear hP hq))
        go_upto_region 17 with (first
          | ((with_reducible refine wp_load_box_g rfl _ rfl ?_); refine ⟨_, d, rfl, HB1.out.1.p, ?_⟩)
          | ((with_reducible refine wp_load_box_g rfl _ rfl ?_); refine ⟨_, d, rfl, HM.out.p, ?_⟩)
          | (go_at_call 12; (with_reducible refine (HP1.out _).mono ?_); rintro r v1 ⟨rfl, hb⟩; have HA1 := Lib.hid (HM.out.next hb); clear hb)
          | (go_at_call 12; (with_reducible refine (HP2.out _).mono ?_); rintro r v2 ⟨rfl, hb⟩; have HA2 := Lib.hid (And.intro (HB1.out.1.next hb) (And.intro (HB1.out.2.1.below hb) HB1.out.2.2)); clear hb)
          | ((with_reducible refine wp_store_row' rfl 33 _ _ rfl ?_); refine ⟨v1.heap.size, 33, movC (f : Int) (g : Int) 0 0 false, rfl, rfl, ⟨_, heap_alloc_new _ _, (by kernel_rfl)⟩, Tryd.info_mvB _ _ _ _ _, Tryd.one_mvB _ _ _ _ _, ?_⟩; intro V1 hP hq; have HB1 := Lib.hid (And.intro (HA1.out.other hP) (And.intro hq (Nat.ne_of_gt HA1.out.m.lt))); clear hP hq)
          | ((with_reducible refine wp_store_row' rfl 33 _ _ rfl ?_); refine ⟨v2.heap.size, 33, movC (f : Int) (g : Int) 5 0 false, rfl, rfl, ⟨_, heap_alloc_new _ _, (by kernel_rfl)⟩, Tryd.info_mvB _ _ _ _ _, Tryd.one_mvB _ _ _ _ _, ?_⟩; intro V2 hP hq; have HB2 := Lib.hid (And.intro (HA2.out.1.other hP) (And.intro (hP.row (HA2.out.2.1.alloc _) (Nat.ne_of_lt HA2.out.2.1.lt)) (And.intro HA2.out.2.2 (And.intro hq (Nat.ne_of_gt HA2.out.1.m.lt))))); clear hP hq))
        go_upto_region 20 with (first
          | ((with_reducible refine wp_load_box_g rfl _ rfl ?_); refine ⟨_, d, rfl, HC1.out.1.p, ?_⟩)
          | ((with_reducible refine mv_load_rowG rfl 33 _ rfl Tryd.underlying33 rfl ?_); refine ⟨_, _, _, rfl, HC1.out.1.m, Tryd.info_mvB _ _ _ _ _, ?_⟩)
          | (go_at_call 9; (with_reducible refine (HS3.out _).mono ?_); rintro r v3 ⟨rfl, hb⟩; have HC2 := Lib.hid (And.intro (HC1.out.1.next hb) (And.intro (HC1.out.2.1.below hb) (And.intro HC1.out.2.2.1 (And.intro (HC1.out.2.2.2.1.below hb) HC1.out.2.2.2.2)))); clear hb)
          | ((with_reducible refine wp_store_at rfl 4 _ _ rfl ?_); refine ⟨_, _, _, _, .bool true, rfl, rfl, rfl, HB2.out.1.m, (by show 4 < 5; omega), Tryd.size_boolS, ?_⟩; intro V hV hR3; have HC1 := Lib.hid (And.intro (show PlAt w d _ (movC (f : Int) (g : Int) 0 0 true) V from HB2.out.1.put hV hR3) (And.intro (hV.row HB2.out.2.1 HB2.out.2.2.1) (And.intro HB2.out.2.2.1 (And.intro (hV.row HB2.out.2.2.2.1 HB2.out.2.2.2.2) HB2.out.2.2.2.2)))); clear hV hR3)
          | ((with_reducible refine wp_store_at rfl 4 _ _ rfl ?_); refine ⟨_, _, _, _, .bool false, rfl, rfl, rfl, HC2.out.1.m, (by show 4 < 5; omega), Tryd.size_boolS, ?_⟩; intro V hV hR3; have HC3 := Lib.hid (And.intro (show PlAt w d _ (movC (f : Int) (g : Int) 0 0 false) V from HC2.out.1.put hV hR3) (And.intro (hV.row HC2.out.2.1 HC2.out.2.2.1) (hV.row HC2.out.2.2.2.1 HC2.out.2.2.2.2))); clear hV hR3))
        have HDD := HC3
        clear HB2 HC1 HC2 HC3 HB1 HA1 HA2 HM
        go_wp2_with (first
          | ((with_reducible refine wp_load_box_g rfl _ rfl ?_); refine ⟨_, d, rfl, HDD.out.1.p, ?_⟩)
          | ((with_reducible refine mv_load_rowG rfl 33 _ rfl Tryd.underlying33 rfl ?_); refine ⟨_, _, _, rfl, HDD.out.1.m, Tryd.info_mvB _ _ _ _ _, ?_⟩)
          | ((with_reducible refine mv_load_rowG rfl 33 _ rfl Tryd.underlying33 rfl ?_); refine ⟨_, _, _, rfl, HDD.out.2.1, Tryd.info_mvB _ _ _ _ _, ?_⟩)
          | ((with_reducible refine wpl_eql_mv rfl _ _ _ rfl ?_); refine ⟨((f : Int), (g : Int), 0, 0, false), ((f : Int), (g : Int), 0, 0, false), rfl, rfl, ?_⟩; rw [N.mv_selfF])
          | (go_at_call 9; (with_reducible refine (HS4.out _).mono ?_); rintro r v4 ⟨rfl, hb⟩; have HE := Lib.hid (HDD.out.1.next hb); have n2 := HE.out.m.cell 2; have n4 := (HDD.out.2.2.below hb).cell 4; rw [show (movC (f : Int) (g : Int) 0 0 false)[2]? = some (.int .u8 0) from rfl] at n2; rw [show (movC (f : Int) (g : Int) 5 0 false)[4]? = some (.bool false) from rfl] at n4; clear hb))
        go_ret
        exact ⟨by first | rfl | simp, HE.out.below⟩
      by_cases hk6 : 6 < k
      · have dk2 : decide (2 ≤ k) = true := by simp; omega
        have dk6 : decide (k ≤ 6) = false := by simp; omega
        have eT : (N.tx f ++ N.tx g) = N.walk f g 0 := rfl
        have eQ : ((N.tx f ++ N.tx g) ++ ⟨#[113]⟩) = N.walk f g 5 := rfl
        obtain ⟨f1, g1, x1, y1, z1, e1, hP1, hPC1⟩ := mvParse_fix d (N.tx f ++ N.tx g) hd (Nat.le_of_ble_eq_true rfl)
        obtain ⟨f2, g2, x2, y2, z2, e2, hP2, hPC2⟩ := mvParse_fix d ((N.tx f ++ N.tx g) ++ ⟨#[113]⟩) hd (Nat.le_of_ble_eq_true rfl)
        obtain ⟨S3, hS3, hSC3⟩ := mvText_fix d (f : Int) (g : Int) 0 0 true hd (by unfold MovOk; omega)
        obtain rfl : S3 = ⟨#[]⟩ := N.end_none hS3 (N.text_noCas hno)
        obtain ⟨S4, hS4, hSC4⟩ := mvText_fix d (f : Int) (g : Int) 0 0 false hd (by unfold MovOk; omega)
        rw [eT] at hP1
        rw [eQ] at hP2
        have hTx := N.text_walk_is (x := 0) hkd hf hg hne (by decide) (hno _)
        obtain ⟨rfl, rfl, rfl, rfl, rfl, rfl⟩ := N.parse_ok hP1 hTx
        obtain rfl : S4 = N.walk f g 0 := N.end_of hS4 hTx
        rw [← eT] at hSC4
        obtain ⟨rfl, rfl, rfl, rfl, rfl, rfl⟩ := N.parse_ok hP2 (N.text_walk_is (x := 5) hkd hf hg hne (by decide) (hno _))
        have HP1 : Hid (∀ W, Calls Tryd.prog 12 #[.agg (posC d), .string (N.tx f ++ N.tx g)] W fun e w' => e = .returned (.tuple #[.agg (movC (f : Int) (g : Int) 0 0 false), .int .i64 0]) ∧ Below W.heap.size W w') := Lib.hid hPC1
        have HP2 : Hid (∀ W, Calls Tryd.prog 12 #[.agg (posC d), .string ((N.tx f ++ N.tx g) ++ ⟨#[113]⟩)] W fun e w' => e = .returned (.tuple #[.agg (movC (f : Int) (g : Int) 5 0 false), .int .i64 0]) ∧ Below W.heap.size W w') := Lib.hid hPC2
        have HS3 : Hid (∀ W, Calls Tryd.prog 9 #[.agg (posC d), .agg (movC (f : Int) (g : Int) 0 0 true)] W fun e w' => e = .returned (.string ⟨#[]⟩) ∧ Below W.heap.size W w') := Lib.hid hSC3
        have HS4 : Hid (∀ W, Calls Tryd.prog 9 #[.agg (posC d), .agg (movC (f : Int) (g : Int) 0 0 false)] W fun e w' => e = .returned (.string (N.tx f ++ N.tx g)) ∧ Below W.heap.size W w') := Lib.hid hSC4
        have z1 : (N.tx f).size + (N.tx g).size ≤ 9223372036854775807 := Nat.le_of_ble_eq_true rfl
        have z3 : ((N.tx f ++ N.tx g)).size + (⟨#[113]⟩ : ByteArray).size ≤ 9223372036854775807 := Nat.le_of_ble_eq_true rfl
        have HF : Hid (∀ W, Calls Tryd.prog 13 #[.int .i64 (f : Int)] W fun e w' => e = .returned (.string (N.tx f)) ∧ Below W.heap.size W w') := Lib.hid (fun W => sqtext_any f W hf)
        have HG : Hid (∀ W, Calls Tryd.prog 13 #[.int .i64 (g : Int)] W fun e w' => e = .returned (.string (N.tx g)) ∧ Below W.heap.size W w') := Lib.hid (fun W => sqtext_any g W hg)
        clear eT eQ hP1 hP2 hPC1 hPC2 hS3 hSC3 hS4 hSC4 hno hkd hd hTx hne hg hf hk2 hk6
        generalize N.tx g = TG at *
        generalize N.tx f = TF at *
        go_upto_region 15 with (first
          | (go_at_call 13; (with_reducible refine (HF.out _).mono ?_); rintro r wa ⟨rfl, hb⟩; first | (have HJ := Lib.hid (And.intro (HI.out.1.below hb) (below_next HI.out.2 hb))) | (have HI := Lib.hid (And.intro (HR.out.1.below hb) (below_next HR.out.2 hb))); clear hb)
          | (go_at_call 13; (with_reducible refine (HG.out _).mono ?_); rintro r wb ⟨rfl, hb⟩; have HJ := Lib.hid (And.intro (HI.out.1.below hb) (below_next HI.out.2 hb)); clear hb)
          | ((with_reducible refine wp_store_at rfl 5 _ _ rfl ?_); refine ⟨_, _, _, _, .int .u8 k, rfl, rfl, rfl, HM.out.m, (by show 2 < 5; omega), Tryd.size_u8, ?_⟩; intro V hV hR3; have HM2 := Lib.hid (show PlAt w d _ (movC (f : Int) (g : Int) 0 0 false) V from HM.out.put hV hR3); clear hV hR3)
          | ((with_reducible refine wp_store_row' rfl 33 _ _ rfl ?_); refine ⟨_, 33, movC (f : Int) (g : Int) 0 0 false, rfl, rfl, ⟨_, heap_alloc_new _ _, (by kernel_rfl)⟩, Tryd.info_mvB _ _ _ _ _, Tryd.one_mvB _ _ _ _ _, ?_⟩; intro V hP hq; have HM := Lib.hid (show PlAt w d _ (movC (f : Int) (g : Int) 0 0 false) V from ⟨hP.pos (HJ.out.1.alloc _) (Nat.ne_of_lt HJ.out.1.lt), hq, hP.below (HJ.out.2.alloc HJ.out.2.size _) HJ.out.2.size, HJ.out.1.lt⟩); clear hP hq))
        go_upto_region 17 with (first
          | ((with_reducible refine wp_load_box_g rfl _ rfl ?_); refine ⟨_, d, rfl, HB1.out.1.p, ?_⟩)
          | ((with_reducible refine wp_load_box_g rfl _ rfl ?_); refine ⟨_, d, rfl, HM.out.p, ?_⟩)
          | (go_at_call 12; (with_reducible refine (HP1.out _).mono ?_); rintro r v1 ⟨rfl, hb⟩; have HA1 := Lib.hid (HM.out.next hb); clear hb)
          | (go_at_call 12; (with_reducible refine (HP2.out _).mono ?_); rintro r v2 ⟨rfl, hb⟩; have HA2 := Lib.hid (And.intro (HB1.out.1.next hb) (And.intro (HB1.out.2.1.below hb) HB1.out.2.2)); clear hb)
          | ((with_reducible refine wp_store_row' rfl 33 _ _ rfl ?_); refine ⟨v1.heap.size, 33, movC (f : Int) (g : Int) 0 0 false, rfl, rfl, ⟨_, heap_alloc_new _ _, (by kernel_rfl)⟩, Tryd.info_mvB _ _ _ _ _, Tryd.one_mvB _ _ _ _ _, ?_⟩; intro V1 hP hq; have HB1 := Lib.hid (And.intro (HA1.out.other hP) (And.intro hq (Nat.ne_of_gt HA1.out.m.lt))); clear hP hq)
          | ((with_reducible refine wp_store_row' rfl 33 _ _ rfl ?_); refine ⟨v2.heap.size, 33, movC (f : Int) (g : Int) 5 0 false, rfl, rfl, ⟨_, heap_alloc_new _ _, (by kernel_rfl)⟩, Tryd.info_mvB _ _ _ _ _, Tryd.one_mvB _ _ _ _ _, ?_⟩; intro V2 hP hq; have HB2 := Lib.hid (And.intro (HA2.out.1.other hP) (And.intro (hP.row (HA2.out.2.1.alloc _) (Nat.ne_of_lt HA2.out.2.1.lt)) (And.intro HA2.out.2.2 (And.intro hq (Nat.ne_of_gt HA2.out.1.m.lt))))); clear hP hq))
        go_upto_region 20 with (first
          | ((with_reducible refine wp_load_box_g rfl _ rfl ?_); refine ⟨_, d, rfl, HC1.out.1.p, ?_⟩)
          | ((with_reducible refine mv_load_rowG rfl 33 _ rfl Tryd.underlying33 rfl ?_); refine ⟨_, _, _, rfl, HC1.out.1.m, Tryd.info_mvB _ _ _ _ _, ?_⟩)
          | (go_at_call 9; (with_reducible refine (HS3.out _).mono ?_); rintro r v3 ⟨rfl, hb⟩; have HC2 := Lib.hid (And.intro (HC1.out.1.next hb) (And.intro (HC1.out.2.1.below hb) (And.intro HC1.out.2.2.1 (And.intro (HC1.out.2.2.2.1.below hb) HC1.out.2.2.2.2)))); clear hb)
          | ((with_reducible refine wp_store_at rfl 4 _ _ rfl ?_); refine ⟨_, _, _, _, .bool true, rfl, rfl, rfl, HB2.out.1.m, (by show 4 < 5; omega), Tryd.size_boolS, ?_⟩; intro V hV hR3; have HC1 := Lib.hid (And.intro (show PlAt w d _ (movC (f : Int) (g : Int) 0 0 true) V from HB2.out.1.put hV hR3) (And.intro (hV.row HB2.out.2.1 HB2.out.2.2.1) (And.intro HB2.out.2.2.1 (And.intro (hV.row HB2.out.2.2.2.1 HB2.out.2.2.2.2) HB2.out.2.2.2.2)))); clear hV hR3)
          | ((with_reducible refine wp_store_at rfl 4 _ _ rfl ?_); refine ⟨_, _, _, _, .bool false, rfl, rfl, rfl, HC2.out.1.m, (by show 4 < 5; omega), Tryd.size_boolS, ?_⟩; intro V hV hR3; have HC3 := Lib.hid (And.intro (show PlAt w d _ (movC (f : Int) (g : Int) 0 0 false) V from HC2.out.1.put hV hR3) (And.intro (hV.row HC2.out.2.1 HC2.out.2.2.1) (hV.row HC2.out.2.2.2.1 HC2.out.2.2.2.2))); clear hV hR3))
        have HDD := HC3
        clear HB2 HC1 HC2 HC3 HB1 HA1 HA2 HM
        go_wp2_with (first
          | ((with_reducible refine wp_load_box_g rfl _ rfl ?_); refine ⟨_, d, rfl, HDD.out.1.p, ?_⟩)
          | ((with_reducible refine mv_load_rowG rfl 33 _ rfl Tryd.underlying33 rfl ?_); refine ⟨_, _, _, rfl, HDD.out.1.m, Tryd.info_mvB _ _ _ _ _, ?_⟩)
          | ((with_reducible refine mv_load_rowG rfl 33 _ rfl Tryd.underlying33 rfl ?_); refine ⟨_, _, _, rfl, HDD.out.2.1, Tryd.info_mvB _ _ _ _ _, ?_⟩)
          | ((with_reducible refine wpl_eql_mv rfl _ _ _ rfl ?_); refine ⟨((f : Int), (g : Int), 0, 0, false), ((f : Int), (g : Int), 0, 0, false), rfl, rfl, ?_⟩; rw [N.mv_selfF])
          | (go_at_call 9; (with_reducible refine (HS4.out _).mono ?_); rintro r v4 ⟨rfl, hb⟩; have HE := Lib.hid (HDD.out.1.next hb); have n2 := HE.out.m.cell 2; have n4 := (HDD.out.2.2.below hb).cell 4; rw [show (movC (f : Int) (g : Int) 0 0 false)[2]? = some (.int .u8 0) from rfl] at n2; rw [show (movC (f : Int) (g : Int) 5 0 false)[4]? = some (.bool false) from rfl] at n4; clear hb))
        go_ret
        exact ⟨by first | rfl | simp, HE.out.below⟩
      rcases (show k = 2 ∨ k = 3 ∨ k = 4 ∨ k = 5 ∨ k = 6 by omega) with rfl | rfl | rfl | rfl | rfl
      · clear hk2 hk6
        have eT : ((N.tx f ++ N.tx g) ++ (⟨#[63, 63, 110, 98, 114, 113, 107]⟩ : ByteArray).extract 2 3) = N.walk f g 2 := rfl
        have eQ : (((N.tx f ++ N.tx g) ++ (⟨#[63, 63, 110, 98, 114, 113, 107]⟩ : ByteArray).extract 2 3) ++ ⟨#[113]⟩) = N.mk f g (N.lowB 2 ++ [113]) := rfl
        obtain ⟨f1, g1, x1, y1, z1, e1, hP1, hPC1⟩ := mvParse_fix d ((N.tx f ++ N.tx g) ++ (⟨#[63, 63, 110, 98, 114, 113, 107]⟩ : ByteArray).extract 2 3) hd (Nat.le_of_ble_eq_true rfl)
        obtain ⟨f2, g2, x2, y2, z2, e2, hP2, hPC2⟩ := mvParse_fix d (((N.tx f ++ N.tx g) ++ (⟨#[63, 63, 110, 98, 114, 113, 107]⟩ : ByteArray).extract 2 3) ++ ⟨#[113]⟩) hd (Nat.le_of_ble_eq_true rfl)
        obtain ⟨S3, hS3, hSC3⟩ := mvText_fix d (f : Int) (g : Int) 2 0 true hd (by unfold MovOk; omega)
        obtain rfl : S3 = ⟨#[]⟩ := N.end_none hS3 (N.text_noCas hno)
        obtain ⟨S4, hS4, hSC4⟩ := mvText_fix d (f : Int) (g : Int) 2 0 false hd (by unfold MovOk; omega)
        rw [eT] at hP1
        rw [eQ] at hP2
        have hTx := N.text_walk_is (x := 2) hkd hf hg hne (by decide) (hno _)
        obtain ⟨rfl, rfl, rfl, rfl, rfl, rfl⟩ := N.parse_ok hP1 hTx
        obtain rfl : S4 = N.walk f g 2 := N.end_of hS4 hTx
        rw [← eT] at hSC4
        obtain ⟨rfl, rfl, rfl, rfl, rfl, rfl⟩ := N.parse_bad hkd hP2 (N.mk_long f g _ hf hg rfl)
        have HP1 : Hid (∀ W, Calls Tryd.prog 12 #[.agg (posC d), .string ((N.tx f ++ N.tx g) ++ (⟨#[63, 63, 110, 98, 114, 113, 107]⟩ : ByteArray).extract 2 3)] W fun e w' => e = .returned (.tuple #[.agg (movC (f : Int) (g : Int) 2 0 false), .int .i64 0]) ∧ Below W.heap.size W w') := Lib.hid hPC1
        have HP2 : Hid (∀ W, Calls Tryd.prog 12 #[.agg (posC d), .string (((N.tx f ++ N.tx g) ++ (⟨#[63, 63, 110, 98, 114, 113, 107]⟩ : ByteArray).extract 2 3) ++ ⟨#[113]⟩)] W fun e w' => e = .returned (.tuple #[.agg (movC 0 0 0 0 false), .int .i64 5]) ∧ Below W.heap.size W w') := Lib.hid hPC2
        have HS3 : Hid (∀ W, Calls Tryd.prog 9 #[.agg (posC d), .agg (movC (f : Int) (g : Int) 2 0 true)] W fun e w' => e = .returned (.string ⟨#[]⟩) ∧ Below W.heap.size W w') := Lib.hid hSC3
        have HS4 : Hid (∀ W, Calls Tryd.prog 9 #[.agg (posC d), .agg (movC (f : Int) (g : Int) 2 0 false)] W fun e w' => e = .returned (.string ((N.tx f ++ N.tx g) ++ (⟨#[63, 63, 110, 98, 114, 113, 107]⟩ : ByteArray).extract 2 3)) ∧ Below W.heap.size W w') := Lib.hid hSC4
        have z1 : (N.tx f).size + (N.tx g).size ≤ 9223372036854775807 := Nat.le_of_ble_eq_true rfl
        have z2 : (N.tx f ++ N.tx g).size + ((⟨#[63, 63, 110, 98, 114, 113, 107]⟩ : ByteArray).extract 2 3).size ≤ 9223372036854775807 := Nat.le_of_ble_eq_true rfl
        have z3 : (((N.tx f ++ N.tx g) ++ (⟨#[63, 63, 110, 98, 114, 113, 107]⟩ : ByteArray).extract 2 3)).size + (⟨#[113]⟩ : ByteArray).size ≤ 9223372036854775807 := Nat.le_of_ble_eq_true rfl
        have HF : Hid (∀ W, Calls Tryd.prog 13 #[.int .i64 (f : Int)] W fun e w' => e = .returned (.string (N.tx f)) ∧ Below W.heap.size W w') := Lib.hid (fun W => sqtext_any f W hf)
        have HG : Hid (∀ W, Calls Tryd.prog 13 #[.int .i64 (g : Int)] W fun e w' => e = .returned (.string (N.tx g)) ∧ Below W.heap.size W w') := Lib.hid (fun W => sqtext_any g W hg)
        clear eT eQ hP1 hP2 hPC1 hPC2 hS3 hSC3 hS4 hSC4 hno hkd hd hTx hne hg hf
        generalize N.tx g = TG at *
        generalize N.tx f = TF at *
        go_upto_region 15 with (first
          | (go_at_call 13; (with_reducible refine (HF.out _).mono ?_); rintro r wa ⟨rfl, hb⟩; first | (have HJ := Lib.hid (And.intro (HI.out.1.below hb) (below_next HI.out.2 hb))) | (have HI := Lib.hid (And.intro (HR.out.1.below hb) (below_next HR.out.2 hb))); clear hb)
          | (go_at_call 13; (with_reducible refine (HG.out _).mono ?_); rintro r wb ⟨rfl, hb⟩; have HJ := Lib.hid (And.intro (HI.out.1.below hb) (below_next HI.out.2 hb)); clear hb)
          | ((with_reducible refine wp_store_at rfl 5 _ _ rfl ?_); refine ⟨_, _, _, _, .int .u8 2, rfl, rfl, rfl, HM.out.m, (by show 2 < 5; omega), Tryd.size_u8, ?_⟩; intro V hV hR3; have HM2 := Lib.hid (show PlAt w d _ (movC (f : Int) (g : Int) 2 0 false) V from HM.out.put hV hR3); clear hV hR3)
          | ((with_reducible refine wp_store_row' rfl 33 _ _ rfl ?_); refine ⟨_, 33, movC (f : Int) (g : Int) 0 0 false, rfl, rfl, ⟨_, heap_alloc_new _ _, (by kernel_rfl)⟩, Tryd.info_mvB _ _ _ _ _, Tryd.one_mvB _ _ _ _ _, ?_⟩; intro V hP hq; have HM := Lib.hid (show PlAt w d _ (movC (f : Int) (g : Int) 0 0 false) V from ⟨hP.pos (HJ.out.1.alloc _) (Nat.ne_of_lt HJ.out.1.lt), hq, hP.below (HJ.out.2.alloc HJ.out.2.size _) HJ.out.2.size, HJ.out.1.lt⟩); clear hP hq))
        have HM := HM2
        go_upto_region 17 with (first
          | ((with_reducible refine wp_load_box_g rfl _ rfl ?_); refine ⟨_, d, rfl, HB1.out.1.p, ?_⟩)
          | ((with_reducible refine wp_load_box_g rfl _ rfl ?_); refine ⟨_, d, rfl, HM.out.p, ?_⟩)
          | (go_at_call 12; (with_reducible refine (HP1.out _).mono ?_); rintro r v1 ⟨rfl, hb⟩; have HA1 := Lib.hid (HM.out.next hb); clear hb)
          | (go_at_call 12; (with_reducible refine (HP2.out _).mono ?_); rintro r v2 ⟨rfl, hb⟩; have HA2 := Lib.hid (And.intro (HB1.out.1.next hb) (And.intro (HB1.out.2.1.below hb) HB1.out.2.2)); clear hb)
          | ((with_reducible refine wp_store_row' rfl 33 _ _ rfl ?_); refine ⟨v1.heap.size, 33, movC (f : Int) (g : Int) 2 0 false, rfl, rfl, ⟨_, heap_alloc_new _ _, (by kernel_rfl)⟩, Tryd.info_mvB _ _ _ _ _, Tryd.one_mvB _ _ _ _ _, ?_⟩; intro V1 hP hq; have HB1 := Lib.hid (And.intro (HA1.out.other hP) (And.intro hq (Nat.ne_of_gt HA1.out.m.lt))); clear hP hq)
          | ((with_reducible refine wp_store_row' rfl 33 _ _ rfl ?_); refine ⟨v2.heap.size, 33, movC 0 0 0 0 false, rfl, rfl, ⟨_, heap_alloc_new _ _, (by kernel_rfl)⟩, Tryd.info_mvB _ _ _ _ _, Tryd.one_mvB _ _ _ _ _, ?_⟩; intro V2 hP hq; have HB2 := Lib.hid (And.intro (HA2.out.1.other hP) (And.intro (hP.row (HA2.out.2.1.alloc _) (Nat.ne_of_lt HA2.out.2.1.lt)) (And.intro HA2.out.2.2 (And.intro hq (Nat.ne_of_gt HA2.out.1.m.lt))))); clear hP hq))
        go_upto_region 20 with (first
          | ((with_reducible refine wp_load_box_g rfl _ rfl ?_); refine ⟨_, d, rfl, HC1.out.1.p, ?_⟩)
          | ((with_reducible refine mv_load_rowG rfl 33 _ rfl Tryd.underlying33 rfl ?_); refine ⟨_, _, _, rfl, HC1.out.1.m, Tryd.info_mvB _ _ _ _ _, ?_⟩)
          | (go_at_call 9; (with_reducible refine (HS3.out _).mono ?_); rintro r v3 ⟨rfl, hb⟩; have HC2 := Lib.hid (And.intro (HC1.out.1.next hb) (And.intro (HC1.out.2.1.below hb) (And.intro HC1.out.2.2.1 (And.intro (HC1.out.2.2.2.1.below hb) HC1.out.2.2.2.2)))); clear hb)
          | ((with_reducible refine wp_store_at rfl 4 _ _ rfl ?_); refine ⟨_, _, _, _, .bool true, rfl, rfl, rfl, HB2.out.1.m, (by show 4 < 5; omega), Tryd.size_boolS, ?_⟩; intro V hV hR3; have HC1 := Lib.hid (And.intro (show PlAt w d _ (movC (f : Int) (g : Int) 2 0 true) V from HB2.out.1.put hV hR3) (And.intro (hV.row HB2.out.2.1 HB2.out.2.2.1) (And.intro HB2.out.2.2.1 (And.intro (hV.row HB2.out.2.2.2.1 HB2.out.2.2.2.2) HB2.out.2.2.2.2)))); clear hV hR3)
          | ((with_reducible refine wp_store_at rfl 4 _ _ rfl ?_); refine ⟨_, _, _, _, .bool false, rfl, rfl, rfl, HC2.out.1.m, (by show 4 < 5; omega), Tryd.size_boolS, ?_⟩; intro V hV hR3; have HC3 := Lib.hid (And.intro (show PlAt w d _ (movC (f : Int) (g : Int) 2 0 false) V from HC2.out.1.put hV hR3) (And.intro (hV.row HC2.out.2.1 HC2.out.2.2.1) (hV.row HC2.out.2.2.2.1 HC2.out.2.2.2.2))); clear hV hR3))
        have HDD := HC3
        clear HB2 HC1 HC2 HC3 HB1 HA1 HA2 HM
        go_wp2_with (first
          | ((with_reducible refine wp_load_box_g rfl _ rfl ?_); refine ⟨_, d, rfl, HDD.out.1.p, ?_⟩)
          | ((with_reducible refine mv_load_rowG rfl 33 _ rfl Tryd.underlying33 rfl ?_); refine ⟨_, _, _, rfl, HDD.out.1.m, Tryd.info_mvB _ _ _ _ _, ?_⟩)
          | ((with_reducible refine mv_load_rowG rfl 33 _ rfl Tryd.underlying33 rfl ?_); refine ⟨_, _, _, rfl, HDD.out.2.1, Tryd.info_mvB _ _ _ _ _, ?_⟩)
          | ((with_reducible refine wpl_eql_mv rfl _ _ _ rfl ?_); refine ⟨((f : Int), (g : Int), 2, 0, false), ((f : Int), (g : Int), 2, 0, false), rfl, rfl, ?_⟩; rw [N.mv_selfF])
          | (go_at_call 9; (with_reducible refine (HS4.out _).mono ?_); rintro r v4 ⟨rfl, hb⟩; have HE := Lib.hid (HDD.out.1.next hb); have n2 := HE.out.m.cell 2; have n4 := (HDD.out.2.2.below hb).cell 4; rw [show (movC (f : Int) (g : Int) 2 0 false)[2]? = some (.int .u8 2) from rfl] at n2; rw [show (movC 0 0 0 0 false)[4]? = some (.bool false) from rfl] at n4; clear hb))
        go_ret
        exact ⟨by first | rfl | simp, HE.out.below⟩
      · clear hk2 hk6
        have eT : ((N.tx f ++ N.tx g) ++ (⟨#[63, 63, 110, 98, 114, 113, 107]⟩ : ByteArray).extract 3 4) = N.walk f g 3 := rfl
        have eQ : (((N.tx f ++ N.tx g) ++ (⟨#[63, 63, 110, 98, 114, 113, 107]⟩ : ByteArray).extract 3 4) ++ ⟨#[113]⟩) = N.mk f g (N.lowB 3 ++ [113]) := rfl
        obtain ⟨f1, g1, x1, y1, z1, e1, hP1, hPC1⟩ := mvParse_fix d ((N.tx f ++ N.tx g) ++ (⟨#[63, 63, 110, 98, 114, 113, 107]⟩ : ByteArray).extract 3 4) hd (Nat.le_of_ble_eq_true rfl)
        obtain ⟨f2, g2, x2, y2, z2, e2, hP2, hPC2⟩ := mvParse_fix d (((N.tx f ++ N.tx g) ++ (⟨#[63, 63, 110, 98, 114, 113, 107]⟩ : ByteArray).extract 3 4) ++ ⟨#[113]⟩) hd (Nat.le_of_ble_eq_true rfl)
        obtain ⟨S3, hS3, hSC3⟩ := mvText_fix d (f : Int) (g : Int) 3 0 true hd (by unfold MovOk; omega)
        obtain rfl : S3 = ⟨#[]⟩ := N.end_none hS3 (N.text_noCas hno)
        obtain ⟨S4, hS4, hSC4⟩ := mvText_fix d (f : Int) (g : Int) 3 0 false hd (by unfold MovOk; omega)
        rw [eT] at hP1
        rw [eQ] at hP2
        have hTx := N.text_walk_is (x := 3) hkd hf hg hne (by decide) (hno _)
        obtain ⟨rfl, rfl, rfl, rfl, rfl, rfl⟩ := N.parse_ok hP1 hTx
        obtain rfl : S4 = N.walk f g 3 := N.end_of hS4 hTx
        rw [← eT] at hSC4
        obtain ⟨rfl, rfl, rfl, rfl, rfl, rfl⟩ := N.parse_bad hkd hP2 (N.mk_long f g _ hf hg rfl)
        have HP1 : Hid (∀ W, Calls Tryd.prog 12 #[.agg (posC d), .string ((N.tx f ++ N.tx g) ++ (⟨#[63, 63, 110, 98, 114, 113, 107]⟩ : ByteArray).extract 3 4)] W fun e w' => e = .returned (.tuple #[.agg (movC (f : Int) (g : Int) 3 0 false), .int .i64 0]) ∧ Below W.heap.size W w') := Lib.hid hPC1
        have HP2 : Hid (∀ W, Calls Tryd.prog 12 #[.agg (posC d), .string (((N.tx f ++ N.tx g) ++ (⟨#[63, 63, 110, 98, 114, 113, 107]⟩ : ByteArray).extract 3 4) ++ ⟨#[113]⟩)] W fun e w' => e = .returned (.tuple #[.agg (movC 0 0 0 0 false), .int .i64 5]) ∧ Below W.heap.size W w') := Lib.hid hPC2
        have HS3 : Hid (∀ W, Calls Tryd.prog 9 #[.agg (posC d), .agg (movC (f : Int) (g : Int) 3 0 true)] W fun e w' => e = .returned (.string ⟨#[]⟩) ∧ Below W.heap.size W w') := Lib.hid hSC3
        have HS4 : Hid (∀ W, Calls Tryd.prog 9 #[.agg (posC d), .agg (movC (f : Int) (g : Int) 3 0 false)] W fun e w' => e = .returned (.string ((N.tx f ++ N.tx g) ++ (⟨#[63, 63, 110, 98, 114, 113, 107]⟩ : ByteArray).extract 3 4)) ∧ Below W.heap.size W w') := Lib.hid hSC4
        have z1 : (N.tx f).size + (N.tx g).size ≤ 9223372036854775807 := Nat.le_of_ble_eq_true rfl
        have z2 : (N.tx f ++ N.tx g).size + ((⟨#[63, 63, 110, 98, 114, 113, 107]⟩ : ByteArray).extract 3 4).size ≤ 9223372036854775807 := Nat.le_of_ble_eq_true rfl
        have z3 : (((N.tx f ++ N.tx g) ++ (⟨#[63, 63, 110, 98, 114, 113, 107]⟩ : ByteArray).extract 3 4)).size + (⟨#[113]⟩ : ByteArray).size ≤ 9223372036854775807 := Nat.le_of_ble_eq_true rfl
        have HF : Hid (∀ W, Calls Tryd.prog 13 #[.int .i64 (f : Int)] W fun e w' => e = .returned (.string (N.tx f)) ∧ Below W.heap.size W w') := Lib.hid (fun W => sqtext_any f W hf)
        have HG : Hid (∀ W, Calls Tryd.prog 13 #[.int .i64 (g : Int)] W fun e w' => e = .returned (.string (N.tx g)) ∧ Below W.heap.size W w') := Lib.hid (fun W => sqtext_any g W hg)
        clear eT eQ hP1 hP2 hPC1 hPC2 hS3 hSC3 hS4 hSC4 hno hkd hd hTx hne hg hf
        generalize N.tx g = TG at *
        generalize N.tx f = TF at *
        go_upto_region 15 with (first
          | (go_at_call 13; (with_reducible refine (HF.out _).mono ?_); rintro r wa ⟨rfl, hb⟩; first | (have HJ := Lib.hid (And.intro (HI.out.1.below hb) (below_next HI.out.2 hb))) | (have HI := Lib.hid (And.intro (HR.out.1.below hb) (below_next HR.out.2 hb))); clear hb)
          | (go_at_call 13; (with_reducible refine (HG.out _).mono ?_); rintro r wb ⟨rfl, hb⟩; have HJ := Lib.hid (And.intro (HI.out.1.below hb) (below_next HI.out.2 hb)); clear hb)
          | ((with_reducible refine wp_store_at rfl 5 _ _ rfl ?_); refine ⟨_, _, _, _, .int .u8 3, rfl, rfl, rfl, HM.out.m, (by show 2 < 5; omega), Tryd.size_u8, ?_⟩; intro V hV hR3; have HM2 := Lib.hid (show PlAt w d _ (movC (f : Int) (g : Int) 3 0 false) V from HM.out.put hV hR3); clear hV hR3)
          | ((with_reducible refine wp_store_row' rfl 33 _ _ rfl ?_); refine ⟨_, 33, movC (f : Int) (g : Int) 0 0 false, rfl, rfl, ⟨_, heap_alloc_new _ _, (by kernel_rfl)⟩, Tryd.info_mvB _ _ _ _ _, Tryd.one_mvB _ _ _ _ _, ?_⟩; intro V hP hq; have HM := Lib.hid (show PlAt w d _ (movC (f : Int) (g : Int) 0 0 false) V from ⟨hP.pos (HJ.out.1.alloc _) (Nat.ne_of_lt HJ.out.1.lt), hq, hP.below (HJ.out.2.alloc HJ.out.2.size _) HJ.out.2.size, HJ.out.1.lt⟩); clear hP hq))
        have HM := HM2
        go_upto_region 17 with (first
          | ((with_reducible refine wp_load_box_g rfl _ rfl ?_); refine ⟨_, d, rfl, HB1.out.1.p, ?_⟩)
          | ((with_reducible refine wp_load_box_g rfl _ rfl ?_); refine ⟨_, d, rfl, HM.out.p, ?_⟩)
          | (go_at_call 12; (with_reducible refine (HP1.out _).mono ?_); rintro r v1 ⟨rfl, hb⟩; have HA1 := Lib.hid (HM.out.next hb); clear hb)
          | (go_at_call 12; (with_reducible refine (HP2.out _).mono ?_); rintro r v2 ⟨rfl, hb⟩; have HA2 := Lib.hid (And.intro (HB1.out.1.next hb) (And.intro (HB1.out.2.1.below hb) HB1.out.2.2)); clear hb)
          | ((with_reducible refine wp_store_row' rfl 33 _ _ rfl ?_); refine ⟨v1.heap.size, 33, movC (f : Int) (g : Int) 3 0 false, rfl, rfl, ⟨_, heap_alloc_new _ _, (by kernel_rfl)⟩, Tryd.info_mvB _ _ _ _ _, Tryd.one_mvB _ _ _ _ _, ?_⟩; intro V1 hP hq; have HB1 := Lib.hid (And.intro (HA1.out.other hP) (And.intro hq (Nat.ne_of_gt HA1.out.m.lt))); clear hP hq)
          | ((with_reducible refine wp_store_row' rfl 33 _ _ rfl ?_); refine ⟨v2.heap.size, 33, movC 0 0 0 0 false, rfl, rfl, ⟨_, heap_alloc_new _ _, (by kernel_rfl)⟩, Tryd.info_mvB _ _ _ _ _, Tryd.one_mvB _ _ _ _ _, ?_⟩; intro V2 hP hq; have HB2 := Lib.hid (And.intro (HA2.out.1.other hP) (And.intro (hP.row (HA2.out.2.1.alloc _) (Nat.ne_of_lt HA2.out.2.1.lt)) (And.intro HA2.out.2.2 (And.intro hq (Nat.ne_of_gt HA2.out.1.m.lt))))); clear hP hq))
        go_upto_region 20 with (first
          | ((with_reducible refine wp_load_box_g rfl _ rfl ?_); refine ⟨_, d, rfl, HC1.out.1.p, ?_⟩)
          | ((with_reducible refine mv_load_rowG rfl 33 _ rfl Tryd.underlying33 rfl ?_); refine ⟨_, _, _, rfl, HC1.out.1.m, Tryd.info_mvB _ _ _ _ _, ?_⟩)
          | (go_at_call 9; (with_reducible refine (HS3.out _).mono ?_); rintro r v3 ⟨rfl, hb⟩; have HC2 := Lib.hid (And.intro (HC1.out.1.next hb) (And.intro (HC1.out.2.1.below hb) (And.intro HC1.out.2.2.1 (And.intro (HC1.out.2.2.2.1.below hb) HC1.out.2.2.2.2)))); clear hb)
          | ((with_reducible refine wp_store_at rfl 4 _ _ rfl ?_); refine ⟨_, _, _, _, .bool true, rfl, rfl, rfl, HB2.out.1.m, (by show 4 < 5; omega), Tryd.size_boolS, ?_⟩; intro V hV hR3; have HC1 := Lib.hid (And.intro (show PlAt w d _ (movC (f : Int) (g : Int) 3 0 true) V from HB2.out.1.put hV hR3) (And.intro (hV.row HB2.out.2.1 HB2.out.2.2.1) (And.intro HB2.out.2.2.1 (And.intro (hV.row HB2.out.2.2.2.1 HB2.out.2.2.2.2) HB2.out.2.2.2.2)))); clear hV hR3)
          | ((with_reducible refine wp_store_at rfl 4 _ _ rfl ?_); refine ⟨_, _, _, _, .bool false, rfl, rfl, rfl, HC2.out.1.m, (by show 4 < 5; omega), Tryd.size_boolS, ?_⟩; intro V hV hR3; have HC3 := Lib.hid (And.intro (show PlAt w d _ (movC (f : Int) (g : Int) 3 0 false) V from HC2.out.1.put hV hR3) (And.intro (hV.row HC2.out.2.1 HC2.out.2.2.1) (hV.row HC2.out.2.2.2.1 HC2.out.2.2.2.2))); clear hV hR3))
        have HDD := HC3
        clear HB2 HC1 HC2 HC3 HB1 HA1 HA2 HM
        go_wp2_with (first
          | ((with_reducible refine wp_load_box_g rfl _ rfl ?_); refine ⟨_, d, rfl, HDD.out.1.p, ?_⟩)
          | ((with_reducible refine mv_load_rowG rfl 33 _ rfl Tryd.underlying33 rfl ?_); refine ⟨_, _, _, rfl, HDD.out.1.m, Tryd.info_mvB _ _ _ _ _, ?_⟩)
          | ((with_reducible refine mv_load_rowG rfl 33 _ rfl Tryd.underlying33 rfl ?_); refine ⟨_, _, _, rfl, HDD.out.2.1, Tryd.info_mvB _ _ _ _ _, ?_⟩)
          | ((with_reducible refine wpl_eql_mv rfl _ _ _ rfl ?_); refine ⟨((f : Int), (g : Int), 3, 0, false), ((f : Int), (g : Int), 3, 0, false), rfl, rfl, ?_⟩; rw [N.mv_selfF])
          | (go_at_call 9; (with_reducible refine (HS4.out _).mono ?_); rintro r v4 ⟨rfl, hb⟩; have HE := Lib.hid (HDD.out.1.next hb); have n2 := HE.out.m.cell 2; have n4 := (HDD.out.2.2.below hb).cell 4; rw [show (movC (f : Int) (g : Int) 3 0 false)[2]? = some (.int .u8 3) from rfl] at n2; rw [show (movC 0 0 0 0 false)[4]? = some (.bool false) from rfl] at n4; clear hb))
        go_ret
        exact ⟨by first | rfl | simp, HE.out.below⟩
      · clear hk2 hk6
        have eT : ((N.tx f ++ N.tx g) ++ (⟨#[63, 63, 110, 98, 114, 113, 107]⟩ : ByteArray).extract 4 5) = N.walk f g 4 := rfl
        have eQ : (((N.tx f ++ N.tx g) ++ (⟨#[63, 63, 110, 98, 114, 113, 107]⟩ : ByteArray).extract 4 5) ++ ⟨#[113]⟩) = N.mk f g (N.lowB 4 ++ [113]) := rfl
        obtain ⟨f1, g1, x1, y1, z1, e1, hP1, hPC1⟩ := mvParse_fix d ((N.tx f ++ N.tx g) ++ (⟨#[63, 63, 110, 98, 114, 113, 107]⟩ : ByteArray).extract 4 5) hd (Nat.le_of_ble_eq_true rfl)
        obtain ⟨f2, g2, x2, y2, z2, e2, hP2, hPC2⟩ := mvParse_fix d (((N.tx f ++ N.tx g) ++ (⟨#[63, 63, 110, 98, 114, 113, 107]⟩ : ByteArray).extract 4 5) ++ ⟨#[113]⟩) hd (Nat.le_of_ble_eq_true rfl)
        obtain ⟨S3, hS3, hSC3⟩ := mvText_fix d (f : Int) (g : Int) 4 0 true hd (by unfold MovOk; omega)
        obtain rfl : S3 = ⟨#[]⟩ := N.end_none hS3 (N.text_noCas hno)
        obtain ⟨S4, hS4, hSC4⟩ := mvText_fix d (f : Int) (g : Int) 4 0 false hd (by unfold MovOk; omega)
        rw [eT] at hP1
        rw [eQ] at hP2
        have hTx := N.text_walk_is (x := 4) hkd hf hg hne (by decide) (hno _)
        obtain ⟨rfl, rfl, rfl, rfl, rfl, rfl⟩ := N.parse_ok hP1 hTx
        obtain rfl : S4 = N.walk f g 4 := N.end_of hS4 hTx
        rw [← eT] at hSC4
        obtain ⟨rfl, rfl, rfl, rfl, rfl, rfl⟩ := N.parse_bad hkd hP2 (N.mk_long f g _ hf hg rfl)
        have HP1 : Hid (∀ W, Calls Tryd.prog 12 #[.agg (posC d), .string ((N.tx f ++ N.tx g) ++ (⟨#[63, 63, 110, 98, 114, 113, 107]⟩ : ByteArray).extract 4 5)] W fun e w' => e = .returned (.tuple #[.agg (movC (f : Int) (g : Int) 4 0 false), .int .i64 0]) ∧ Below W.heap.size W w') := Lib.hid hPC1
        have HP2 : Hid (∀ W, Calls Tryd.prog 12 #[.agg (posC d), .string (((N.tx f ++ N.tx g) ++ (⟨#[63, 63, 110, 98, 114, 113, 107]⟩ : ByteArray).extract 4 5) ++ ⟨#[113]⟩)] W fun e w' => e = .returned (.tuple #[.agg (movC 0 0 0 0 false), .int .i64 5]) ∧ Below W.heap.size W w') := Lib.hid hPC2
        have HS3 : Hid (∀ W, Calls Tryd.prog 9 #[.agg (posC d), .agg (movC (f : Int) (g : Int) 4 0 true)] W fun e w' => e = .returned (.string ⟨#[]⟩) ∧ Below W.heap.size W w') := Lib.hid hSC3
        have HS4 : Hid (∀ W, Calls Tryd.prog 9 #[.agg (posC d), .agg (movC (f : Int) (g : Int) 4 0 false)] W fun e w' => e = .returned (.string ((N.tx f ++ N.tx g) ++ (⟨#[63, 63, 110, 98, 114, 113, 107]⟩ : ByteArray).extract 4 5)) ∧ Below W.heap.size W w') := Lib.hid hSC4
        have z1 : (N.tx f).size + (N.tx g).size ≤ 9223372036854775807 := Nat.le_of_ble_eq_true rfl
        have z2 : (N.tx f ++ N.tx g).size + ((⟨#[63, 63, 110, 98, 114, 113, 107]⟩ : ByteArray).extract 4 5).size ≤ 9223372036854775807 := Nat.le_of_ble_eq_true rfl
        have z3 : (((N.tx f ++ N.tx g) ++ (⟨#[63, 63, 110, 98, 114, 113, 107]⟩ : ByteArray).extract 4 5)).size + (⟨#[113]⟩ : ByteArray).size ≤ 9223372036854775807 := Nat.le_of_ble_eq_true rfl
        have HF : Hid (∀ W, Calls Tryd.prog 13 #[.int .i64 (f : Int)] W fun e w' => e = .returned (.string (N.tx f)) ∧ Below W.heap.size W w') := Lib.hid (fun W => sqtext_any f W hf)
        have HG : Hid (∀ W, Calls Tryd.prog 13 #[.int .i64 (g : Int)] W fun e w' => e = .returned (.string (N.tx g)) ∧ Below W.heap.size W w') := Lib.hid (fun W => sqtext_any g W hg)
        clear eT eQ hP1 hP2 hPC1 hPC2 hS3 hSC3 hS4 hSC4 hno hkd hd hTx hne hg hf
        generalize N.tx g = TG at *
        generalize N.tx f = TF at *
        go_upto_region 15 with (first
          | (go_at_call 13; (with_reducible refine (HF.out _).mono ?_); rintro r wa ⟨rfl, hb⟩; first | (have HJ := Lib.hid (And.intro (HI.out.1.below hb) (below_next HI.out.2 hb))) | (have HI := Lib.hid (And.intro (HR.out.1.below hb) (below_next HR.out.2 hb))); clear hb)
          | (go_at_call 13; (with_reducible refine (HG.out _).mono ?_); rintro r wb ⟨rfl, hb⟩; have HJ := Lib.hid (And.intro (HI.out.1.below hb) (below_next HI.out.2 hb)); clear hb)
          | ((with_reducible refine wp_store_at rfl 5 _ _ rfl ?_); refine ⟨_, _, _, _, .int .u8 4, rfl, rfl, rfl, HM.out.m, (by show 2 < 5; omega), Tryd.size_u8, ?_⟩; intro V hV hR3; have HM2 := Lib.hid (show PlAt w d _ (movC (f : Int) (g : Int) 4 0 false) V from HM.out.put hV hR3); clear hV hR3)
          | ((with_reducible refine wp_store_row' rfl 33 _ _ rfl ?_); refine ⟨_, 33, movC (f : Int) (g : Int) 0 0 false, rfl, rfl, ⟨_, heap_alloc_new _ _, (by kernel_rfl)⟩, Tryd.info_mvB _ _ _ _ _, Tryd.one_mvB _ _ _ _ _, ?_⟩; intro V hP hq; have HM := Lib.hid (show PlAt w d _ (movC (f : Int) (g : Int) 0 0 false) V from ⟨hP.pos (HJ.out.1.alloc _) (Nat.ne_of_lt HJ.out.1.lt), hq, hP.below (HJ.out.2.alloc HJ.out.2.size _) HJ.out.2.size, HJ.out.1.lt⟩); clear hP hq))
        have HM := HM2
        go_upto_region 17 with (first
          | ((with_reducible refine wp_load_box_g rfl _ rfl ?_); refine ⟨_, d, rfl, HB1.out.1.p, ?_⟩)
          | ((with_reducible refine wp_load_box_g rfl _ rfl ?_); refine ⟨_, d, rfl, HM.out.p, ?_⟩)
          | (go_at_call 12; (with_reducible refine (HP1.out _).mono ?_); rintro r v1 ⟨rfl, hb⟩; have HA1 := Lib.hid (HM.out.next hb); clear hb)
          | (go_at_call 12; (with_reducible refine (HP2.out _).mono ?_); rintro r v2 ⟨rfl, hb⟩; have HA2 := Lib.hid (And.intro (HB1.out.1.next hb) (And.intro (HB1.out.2.1.below hb) HB1.out.2.2)); clear hb)
          | ((with_reducible refine wp_store_row' rfl 33 _ _ rfl ?_); refine ⟨v1.heap.size, 33, movC (f : Int) (g : Int) 4 0 false, rfl, rfl, ⟨_, heap_alloc_new _ _, (by kernel_rfl)⟩, Tryd.info_mvB _ _ _ _ _, Tryd.one_mvB _ _ _ _ _, ?_⟩; intro V1 hP hq; have HB1 := Lib.hid (And.intro (HA1.out.other hP) (And.intro hq (Nat.ne_of_gt HA1.out.m.lt))); clear hP hq)
          | ((with_reducible refine wp_store_row' rfl 33 _ _ rfl ?_); refine ⟨v2.heap.size, 33, movC 0 0 0 0 false, rfl, rfl, ⟨_, heap_alloc_new _ _, (by kernel_rfl)⟩, Tryd.info_mvB _ _ _ _ _, Tryd.one_mvB _ _ _ _ _, ?_⟩; intro V2 hP hq; have HB2 := Lib.hid (And.intro (HA2.out.1.other hP) (And.intro (hP.row (HA2.out.2.1.alloc _) (Nat.ne_of_lt HA2.out.2.1.lt)) (And.intro HA2.out.2.2 (And.intro hq (Nat.ne_of_gt HA2.out.1.m.lt))))); clear hP hq))
        go_upto_region 20 with (first
          | ((with_reducible refine wp_load_box_g rfl _ rfl ?_); refine ⟨_, d, rfl, HC1.out.1.p, ?_⟩)
          | ((with_reducible refine mv_load_rowG rfl 33 _ rfl Tryd.underlying33 rfl ?_); refine ⟨_, _, _, rfl, HC1.out.1.m, Tryd.info_mvB _ _ _ _ _, ?_⟩)
          | (go_at_call 9; (with_reducible refine (HS3.out _).mono ?_); rintro r v3 ⟨rfl, hb⟩; have HC2 := Lib.hid (And.intro (HC1.out.1.next hb) (And.intro (HC1.out.2.1.below hb) (And.intro HC1.out.2.2.1 (And.intro (HC1.out.2.2.2.1.below hb) HC1.out.2.2.2.2)))); clear hb)
          | ((with_reducible refine wp_store_at rfl 4 _ _ rfl ?_); refine ⟨_, _, _, _, .bool true, rfl, rfl, rfl, HB2.out.1.m, (by show 4 < 5; omega), Tryd.size_boolS, ?_⟩; intro V hV hR3; have HC1 := Lib.hid (And.intro (show PlAt w d _ (movC (f : Int) (g : Int) 4 0 true) V from HB2.out.1.put hV hR3) (And.intro (hV.row HB2.out.2.1 HB2.out.2.2.1) (And.intro HB2.out.2.2.1 (And.intro (hV.row HB2.out.2.2.2.1 HB2.out.2.2.2.2) HB2.out.2.2.2.2)))); clear hV hR3)
          | ((with_reducible refine wp_store_at rfl 4 _ _ rfl ?_); refine ⟨_, _, _, _, .bool false, rfl, rfl, rfl, HC2.out.1.m, (by show 4 < 5; omega), Tryd.size_boolS, ?_⟩; intro V hV hR3; have HC3 := Lib.hid (And.intro (show PlAt w d _ (movC (f : Int) (g : Int) 4 0 false) V from HC2.out.1.put hV hR3) (And.intro (hV.row HC2.out.2.1 HC2.out.2.2.1) (hV.row HC2.out.2.2.2.1 HC2.out.2.2.2.2))); clear hV hR3))
        have HDD := HC3
        clear HB2 HC1 HC2 HC3 HB1 HA1 HA2 HM
        go_wp2_with (first
          | ((with_reducible refine wp_load_box_g rfl _ rfl ?_); refine ⟨_, d, rfl, HDD.out.1.p, ?_⟩)
          | ((with_reducible refine mv_load_rowG rfl 33 _ rfl Tryd.underlying33 rfl ?_); refine ⟨_, _, _, rfl, HDD.out.1.m, Tryd.info_mvB _ _ _ _ _, ?_⟩)
          | ((with_reducible refine mv_load_rowG rfl 33 _ rfl Tryd.underlying33 rfl ?_); refine ⟨_, _, _, rfl, HDD.out.2.1, Tryd.info_mvB _ _ _ _ _, ?_⟩)
          | ((with_reducible refine wpl_eql_mv rfl _ _ _ rfl ?_); refine ⟨((f : Int), (g : Int), 4, 0, false), ((f : Int), (g : Int), 4, 0, false), rfl, rfl, ?_⟩; rw [N.mv_selfF])
          | (go_at_call 9; (with_reducible refine (HS4.out _).mono ?_); rintro r v4 ⟨rfl, hb⟩; have HE := Lib.hid (HDD.out.1.next hb); have n2 := HE.out.m.cell 2; have n4 := (HDD.out.2.2.below hb).cell 4; rw [show (movC (f : Int) (g : Int) 4 0 false)[2]? = some (.int .u8 4) from rfl] at n2; rw [show (movC 0 0 0 0 false)[4]? = some (.bool false) from rfl] at n4; clear hb))
        go_ret
        exact ⟨by first | rfl | simp, HE.out.below⟩
      · clear hk2 hk6
        have eT : ((N.tx f ++ N.tx g) ++ (⟨#[63, 63, 110, 98, 114, 113, 107]⟩ : ByteArray).extract 5 6) = N.walk f g 5 := rfl
        have eQ : (((N.tx f ++ N.tx g) ++ (⟨#[63, 63, 110, 98, 114, 113, 107]⟩ : ByteArray).extract 5 6) ++ ⟨#[113]⟩) = N.mk f g (N.lowB 5 ++ [113]) := rfl
        obtain ⟨f1, g1, x1, y1, z1, e1, hP1, hPC1⟩ := mvParse_fix d ((N.tx f ++ N.tx g) ++ (⟨#[63, 63, 110, 98, 114, 113, 107]⟩ : ByteArray).extract 5 6) hd (Nat.le_of_ble_eq_true rfl)
        obtain ⟨f2, g2, x2, y2, z2, e2, hP2, hPC2⟩ := mvParse_fix d (((N.tx f ++ N.tx g) ++ (⟨#[63, 63, 110, 98, 114, 113, 107]⟩ : ByteArray).extract 5 6) ++ ⟨#[113]⟩) hd (Nat.le_of_ble_eq_true rfl)
        obtain ⟨S3, hS3, hSC3⟩ := mvText_fix d (f : Int) (g : Int) 5 0 true hd (by unfold MovOk; omega)
        obtain rfl : S3 = ⟨#[]⟩ := N.end_none hS3 (N.text_noCas hno)
        obtain ⟨S4, hS4, hSC4⟩ := mvText_fix d (f : Int) (g : Int) 5 0 false hd (by unfold MovOk; omega)
        rw [eT] at hP1
        rw [eQ] at hP2
        have hTx := N.text_walk_is (x := 5) hkd hf hg hne (by decide) (hno _)
        obtain ⟨rfl, rfl, rfl, rfl, rfl, rfl⟩ := N.parse_ok hP1 hTx
        obtain rfl : S4 = N.walk f g 5 := N.end_of hS4 hTx
        rw [← eT] at hSC4
        obtain ⟨rfl, rfl, rfl, rfl, rfl, rfl⟩ := N.parse_bad hkd hP2 (N.mk_long f g _ hf hg rfl)
        have HP1 : Hid (∀ W, Calls Tryd.prog 12 #[.agg (posC d), .string ((N.tx f ++ N.tx g) ++ (⟨#[63, 63, 110, 98, 114, 113, 107]⟩ : ByteArray).extract 5 6)] W fun e w' => e = .returned (.tuple #[.agg (movC (f : Int) (g : Int) 5 0 false), .int .i64 0]) ∧ Below W.heap.size W w') := Lib.hid hPC1
        have HP2 : Hid (∀ W, Calls Tryd.prog 12 #[.agg (posC d), .string (((N.tx f ++ N.tx g) ++ (⟨#[63, 63, 110, 98, 114, 113, 107]⟩ : ByteArray).extract 5 6) ++ ⟨#[113]⟩)] W fun e w' => e = .returned (.tuple #[.agg (movC 0 0 0 0 false), .int .i64 5]) ∧ Below W.heap.size W w') := Lib.hid hPC2
        have HS3 : Hid (∀ W, Calls Tryd.prog 9 #[.agg (posC d), .agg (movC (f : Int) (g : Int) 5 0 true)] W fun e w' => e = .returned (.string ⟨#[]⟩) ∧ Below W.heap.size W w') := Lib.hid hSC3
        have HS4 : Hid (∀ W, Calls Tryd.prog 9 #[.agg (posC d), .agg (movC (f : Int) (g : Int) 5 0 false)] W fun e w' => e = .returned (.string ((N.tx f ++ N.tx g) ++ (⟨#[63, 63, 110, 98, 114, 113, 107]⟩ : ByteArray).extract 5 6)) ∧ Below W.heap.size W w') := Lib.hid hSC4
        have z1 : (N.tx f).size + (N.tx g).size ≤ 9223372036854775807 := Nat.le_of_ble_eq_true rfl
        have z2 : (N.tx f ++ N.tx g).size + ((⟨#[63, 63, 110, 98, 114, 113, 107]⟩ : ByteArray).extract 5 6).size ≤ 9223372036854775807 := Nat.le_of_ble_eq_true rfl
        have z3 : (((N.tx f ++ N.tx g) ++ (⟨#[63, 63, 110, 98, 114, 113, 107]⟩ : ByteArray).extract 5 6)).size + (⟨#[113]⟩ : ByteArray).size ≤ 9223372036854775807 := Nat.le_of_ble_eq_true rfl
        have HF : Hid (∀ W, Calls Tryd.prog 13 #[.int .i64 (f : Int)] W fun e w' => e = .returned (.string (N.tx f)) ∧ Below W.heap.size W w') := Lib.hid (fun W => sqtext_any f W hf)
        have HG : Hid (∀ W, Calls Tryd.prog 13 #[.int .i64 (g : Int)] W fun e w' => e = .returned (.string (N.tx g)) ∧ Below W.heap.size W w') := Lib.hid (fun W => sqtext_any g W hg)
        clear eT eQ hP1 hP2 hPC1 hPC2 hS3 hSC3 hS4 hSC4 hno hkd hd hTx hne hg hf
        generalize N.tx g = TG at *
        generalize N.tx f = TF at *
        go_upto_region 15 with (first
          | (go_at_call 13; (with_reducible refine (HF.out _).mono ?_); rintro r wa ⟨rfl, hb⟩; first | (have HJ := Lib.hid (And.intro (HI.out.1.below hb) (below_next HI.out.2 hb))) | (have HI := Lib.hid (And.intro (HR.out.1.below hb) (below_next HR.out.2 hb))); clear hb)
          | (go_at_call 13; (with_reducible refine (HG.out _).mono ?_); rintro r wb ⟨rfl, hb⟩; have HJ := Lib.hid (And.intro (HI.out.1.below hb) (below_next HI.out.2 hb)); clear hb)
          | ((with_reducible refine wp_store_at rfl 5 _ _ rfl ?_); refine ⟨_, _, _, _, .int .u8 5, rfl, rfl, rfl, HM.out.m, (by show 2 < 5; omega), Tryd.size_u8, ?_⟩; intro V hV hR3; have HM2 := Lib.hid (show PlAt w d _ (movC (f : Int) (g : Int) 5 0 false) V from HM.out.put hV hR3); clear hV hR3)
          | ((with_reducible refine wp_store_row' rfl 33 _ _ rfl ?_); refine ⟨_, 33, movC (f : Int) (g : Int) 0 0 false, rfl, rfl, ⟨_, heap_alloc_new _ _, (by kernel_rfl)⟩, Tryd.info_mvB _ _ _ _ _, Tryd.one_mvB _ _ _ _ _, ?_⟩; intro V hP hq; have HM := Lib.hid (show PlAt w d _ (movC (f : Int) (g : Int) 0 0 false) V from ⟨hP.pos (HJ.out.1.alloc _) (Nat.ne_of_lt HJ.out.1.lt), hq, hP.below (HJ.out.2.alloc HJ.out.2.size _) HJ.out.2.size, HJ.out.1.lt⟩); clear hP hq))
        have HM := HM2
        go_upto_region 17 with (first
          | ((with_reducible refine wp_load_box_g rfl _ rfl ?_); refine ⟨_, d, rfl, HB1.out.1.p, ?_⟩)
          | ((with_reducible refine wp_load_box_g rfl _ rfl ?_); refine ⟨_, d, rfl, HM.out.p, ?_⟩)
          | (go_at_call 12; (with_reducible refine (HP1.out _).mono ?_); rintro r v1 ⟨rfl, hb⟩; have HA1 := Lib.hid (HM.out.next hb); clear hb)
          | (go_at_call 12; (with_reducible refine (HP2.out _).mono ?_); rintro r v2 ⟨rfl, hb⟩; have HA2 := Lib.hid (And.intro (HB1.out.1.next hb) (And.intro (HB1.out.2.1.below hb) HB1.out.2.2)); clear hb)
          | ((with_reducible refine wp_store_row' rfl 33 _ _ rfl ?_); refine ⟨v1.heap.size, 33, movC (f : Int) (g : Int) 5 0 false, rfl, rfl, ⟨_, heap_alloc_new _ _, (by kernel_rfl)⟩, Tryd.info_mvB _ _ _ _ _, Tryd.one_mvB _ _ _ _ _, ?_⟩; intro V1 hP hq; have HB1 := Lib.hid (And.intro (HA1.out.other hP) (And.intro hq (Nat.ne_of_gt HA1.out.m.lt))); clear hP hq)
          | ((with_reducible refine wp_store_row' rfl 33 _ _ rfl ?_); refine ⟨v2.heap.size, 33, movC 0 0 0 0 false, rfl, rfl, ⟨_, heap_alloc_new _ _, (by kernel_rfl)⟩, Tryd.info_mvB _ _ _ _ _, Tryd.one_mvB _ _ _ _ _, ?_⟩; intro V2 hP hq; have HB2 := Lib.hid (And.intro (HA2.out.1.other hP) (And.intro (hP.row (HA2.out.2.1.alloc _) (Nat.ne_of_lt HA2.out.2.1.lt)) (And.intro HA2.out.2.2 (And.intro hq (Nat.ne_of_gt HA2.out.1.m.lt))))); clear hP hq))
        go_upto_region 20 with (first
          | ((with_reducible refine wp_load_box_g rfl _ rfl ?_); refine ⟨_, d, rfl, HC1.out.1.p, ?_⟩)
          | ((with_reducible refine mv_load_rowG rfl 33 _ rfl Tryd.underlying33 rfl ?_); refine ⟨_, _, _, rfl, HC1.out.1.m, Tryd.info_mvB _ _ _ _ _, ?_⟩)
          | (go_at_call 9; (with_reducible refine (HS3.out _).mono ?_); rintro r v3 ⟨rfl, hb⟩; have HC2 := Lib.hid (And.intro (HC1.out.1.next hb) (And.intro (HC1.out.2.1.below hb) (And.intro HC1.out.2.2.1 (And.intro (HC1.out.2.2.2.1.below hb) HC1.out.2.2.2.2)))); clear hb)
          | ((with_reducible refine wp_store_at rfl 4 _ _ rfl ?_); refine ⟨_, _, _, _, .bool true, rfl, rfl, rfl, HB2.out.1.m, (by show 4 < 5; omega), Tryd.size_boolS, ?_⟩; intro V hV hR3; have HC1 := Lib.hid (And.intro (show PlAt w d _ (movC (f : Int) (g : Int) 5 0 true) V from HB2.out.1.put hV hR3) (And.intro (hV.row HB2.out.2.1 HB2.out.2.2.1) (And.intro HB2.out.2.2.1 (And.intro (hV.row HB2.out.2.2.2.1 HB2.out.2.2.2.2) HB2.out.2.2.2.2)))); clear hV hR3)
          | ((with_reducible refine wp_store_at rfl 4 _ _ rfl ?_); refine ⟨_, _, _, _, .bool false, rfl, rfl, rfl, HC2.out.1.m, (by show 4 < 5; omega), Tryd.size_boolS, ?_⟩; intro V hV hR3; have HC3 := Lib.hid (And.intro (show PlAt w d _ (movC (f : Int) (g : Int) 5 0 false) V from HC2.out.1.put hV hR3) (And.intro (hV.row HC2.out.2.1 HC2.out.2.2.1) (hV.row HC2.out.2.2.2.1 HC2.out.2.2.2.2))); clear hV hR3))
        have HDD := HC3
        clear HB2 HC1 HC2 HC3 HB1 HA1 HA2 HM
        go_wp2_with (first
          | ((with_reducible refine wp_load_box_g rfl _ rfl ?_); refine ⟨_, d, rfl, HDD.out.1.p, ?_⟩)
          | ((with_reducible refine mv_load_rowG rfl 33 _ rfl Tryd.underlying33 rfl ?_); refine ⟨_, _, _, rfl, HDD.out.1.m, Tryd.info_mvB _ _ _ _ _, ?_⟩)
          | ((with_reducible refine mv_load_rowG rfl 33 _ rfl Tryd.underlying33 rfl ?_); refine ⟨_, _, _, rfl, HDD.out.2.1, Tryd.info_mvB _ _ _ _ _, ?_⟩)
          | ((with_reducible refine wpl_eql_mv rfl _ _ _ rfl ?_); refine ⟨((f : Int), (g : Int), 5, 0, false), ((f : Int), (g : Int), 5, 0, false), rfl, rfl, ?_⟩; rw [N.mv_selfF])
          | (go_at_call 9; (with_reducible refine (HS4.out _).mono ?_); rintro r v4 ⟨rfl, hb⟩; have HE := Lib.hid (HDD.out.1.next hb); have n2 := HE.out.m.cell 2; have n4 := (HDD.out.2.2.below hb).cell 4; rw [show (movC (f : Int) (g : Int) 5 0 false)[2]? = some (.int .u8 5) from rfl] at n2; rw [show (movC 0 0 0 0 false)[4]? = some (.bool false) from rfl] at n4; clear hb))
        go_ret
        exact ⟨by first | rfl | simp, HE.out.below⟩
      · clear hk2 hk6
        have eT : ((N.tx f ++ N.tx g) ++ (⟨#[63, 63, 110, 98, 114, 113, 107]⟩ : ByteArray).extract 6 7) = N.walk f g 6 := rfl
        have eQ : (((N.tx f ++ N.tx g) ++ (⟨#[63, 63, 110, 98, 114, 113, 107]⟩ : ByteArray).extract 6 7) ++ ⟨#[113]⟩) = N.mk f g (N.lowB 6 ++ [113]) := rfl
        obtain ⟨f1, g1, x1, y1, z1, e1, hP1, hPC1⟩ := mvParse_fix d ((N.tx f ++ N.tx g) ++ (⟨#[63, 63, 110, 98, 114, 113, 107]⟩ : ByteArray).extract 6 7) hd (Nat.le_of_ble_eq_true rfl)
        obtain ⟨f2, g2, x2, y2, z2, e2, hP2, hPC2⟩ := mvParse_fix d (((N.tx f ++ N.tx g) ++ (⟨#[63, 63, 110, 98, 114, 113, 107]⟩ : ByteArray).extract 6 7) ++ ⟨#[113]⟩) hd (Nat.le_of_ble_eq_true rfl)
        obtain ⟨S3, hS3, hSC3⟩ := mvText_fix d (f : Int) (g : Int) 6 0 true hd (by unfold MovOk; omega)
        obtain rfl : S3 = ⟨#[]⟩ := N.end_none hS3 (N.text_noCas hno)
        obtain ⟨S4, hS4, hSC4⟩ := mvText_fix d (f : Int) (g : Int) 6 0 false hd (by unfold MovOk; omega)
        rw [eT] at hP1
        rw [eQ] at hP2
        have hTx := N.text_walk_is (x := 6) hkd hf hg hne (by decide) (hno _)
        obtain ⟨rfl, rfl, rfl, rfl, rfl, rfl⟩ := N.parse_ok hP1 hTx
        obtain rfl : S4 = N.walk f g 6 := N.end_of hS4 hTx
        rw [← eT] at hSC4
        obtain ⟨rfl, rfl, rfl, rfl, rfl, rfl⟩ := N.parse_bad hkd hP2 (N.mk_long f g _ hf hg rfl)
        have HP1 : Hid (∀ W, Calls Tryd.prog 12 #[.agg (posC d), .string ((N.tx f ++ N.tx g) ++ (⟨#[63, 63, 110, 98, 114, 113, 107]⟩ : ByteArray).extract 6 7)] W fun e w' => e = .returned (.tuple #[.agg (movC (f : Int) (g : Int) 6 0 false), .int .i64 0]) ∧ Below W.heap.size W w') := Lib.hid hPC1
        have HP2 : Hid (∀ W, Calls Tryd.prog 12 #[.agg (posC d), .string (((N.tx f ++ N.tx g) ++ (⟨#[63, 63, 110, 98, 114, 113, 107]⟩ : ByteArray).extract 6 7) ++ ⟨#[113]⟩)] W fun e w' => e = .returned (.tuple #[.agg (movC 0 0 0 0 false), .int .i64 5]) ∧ Below W.heap.size W w') := Lib.hid hPC2
        have HS3 : Hid (∀ W, Calls Tryd.prog 9 #[.agg (posC d), .agg (movC (f : Int) (g : Int) 6 0 true)] W fun e w' => e = .returned (.string ⟨#[]⟩) ∧ Below W.heap.size W w') := Lib.hid hSC3
        have HS4 : Hid (∀ W, Calls Tryd.prog 9 #[.agg (posC d), .agg (movC (f : Int) (g : Int) 6 0 false)] W fun e w' => e = .returned (.string ((N.tx f ++ N.tx g) ++ (⟨#[63, 63, 110, 98, 114, 113, 107]⟩ : ByteArray).extract 6 7)) ∧ Below W.heap.size W w') := Lib.hid hSC4
        have z1 : (N.tx f).size + (N.tx g).size ≤ 9223372036854775807 := Nat.le_of_ble_eq_true rfl
        have z2 : (N.tx f ++ N.tx g).size + ((⟨#[63, 63, 110, 98, 114, 113, 107]⟩ : ByteArray).extract 6 7).size ≤ 9223372036854775807 := Nat.le_of_ble_eq_true rfl
        have z3 : (((N.tx f ++ N.tx g) ++ (⟨#[63, 63, 110, 98, 114, 113, 107]⟩ : ByteArray).extract 6 7)).size + (⟨#[113]⟩ : ByteArray).size ≤ 9223372036854775807 := Nat.le_of_ble_eq_true rfl
        have HF : Hid (∀ W, Calls Tryd.prog 13 #[.int .i64 (f : Int)] W fun e w' => e = .returned (.string (N.tx f)) ∧ Below W.heap.size W w') := Lib.hid (fun W => sqtext_any f W hf)
        have HG : Hid (∀ W, Calls Tryd.prog 13 #[.int .i64 (g : Int)] W fun e w' => e = .returned (.string (N.tx g)) ∧ Below W.heap.size W w') := Lib.hid (fun W => sqtext_any g W hg)
        clear eT eQ hP1 hP2 hPC1 hPC2 hS3 hSC3 hS4 hSC4 hno hkd hd hTx hne hg hf
        generalize N.tx g = TG at *
        generalize N.tx f = TF at *
        go_upto_region 15 with (first
          | (go_at_call 13; (with_reducible refine (HF.out _).mono ?_); rintro r wa ⟨rfl, hb⟩; first | (have HJ := Lib.hid (And.intro (HI.out.1.below hb) (below_next HI.out.2 hb))) | (have HI := Lib.hid (And.intro (HR.out.1.below hb) (below_next HR.out.2 hb))); clear hb)
          | (go_at_call 13; (with_reducible refine (HG.out _).mono ?_); rintro r wb ⟨rfl, hb⟩; have HJ := Lib.hid (And.intro (HI.out.1.below hb) (below_next HI.out.2 hb)); clear hb)
          | ((with_reducible refine wp_store_at rfl 5 _ _ rfl ?_); refine ⟨_, _, _, _, .int .u8 6, rfl, rfl, rfl, HM.out.m, (by show 2 < 5; omega), Tryd.size_u8, ?_⟩; intro V hV hR3; have HM2 := Lib.hid (show PlAt w d _ (movC (f : Int) (g : Int) 6 0 false) V from HM.out.put hV hR3); clear hV hR3)
          | ((with_reducible refine wp_store_row' rfl 33 _ _ rfl ?_); refine ⟨_, 33, movC (f : Int) (g : Int) 0 0 false, rfl, rfl, ⟨_, heap_alloc_new _ _, (by kernel_rfl)⟩, Tryd.info_mvB _ _ _ _ _, Tryd.one_mvB _ _ _ _ _, ?_⟩; intro V hP hq; have HM := Lib.hid (show PlAt w d _ (movC (f : Int) (g : Int) 0 0 false) V from ⟨hP.pos (HJ.out.1.alloc _) (Nat.ne_of_lt HJ.out.1.lt), hq, hP.below (HJ.out.2.alloc HJ.out.2.size _) HJ.out.2.size, HJ.out.1.lt⟩); clear hP hq))
        have HM := HM2
        go_upto_region 17 with (first
          | ((with_reducible refine wp_load_box_g rfl _ rfl ?_); refine ⟨_, d, rfl, HB1.out.1.p, ?_⟩)
          | ((with_reducible refine wp_load_box_g rfl _ rfl ?_); refine ⟨_, d, rfl, HM.out.p, ?_⟩)
          | (go_at_call 12; (with_reducible refine (HP1.out _).mono ?_); rintro r v1 ⟨rfl, hb⟩; have HA1 := Lib.hid (HM.out.next hb); clear hb)
          | (go_at_call 12; (with_reducible refine (HP2.out _).mono ?_); rintro r v2 ⟨rfl, hb⟩; have HA2 := Lib.hid (And.intro (HB1.out.1.next hb) (And.intro (HB1.out.2.1.below hb) HB1.out.2.2)); clear hb)
          | ((with_reducible refine wp_store_row' rfl 33 _ _ rfl ?_); refine ⟨v1.heap.size, 33, movC (f : Int) (g : Int) 6 0 false, rfl, rfl, ⟨_, heap_alloc_new _ _, (by kernel_rfl)⟩, Tryd.info_mvB _ _ _ _ _, Tryd.one_mvB _ _ _ _ _, ?_⟩; intro V1 hP hq; have HB1 := Lib.hid (And.intro (HA1.out.other hP) (And.intro hq (Nat.ne_of_gt HA1.out.m.lt))); clear hP hq)
          | ((with_reducible refine wp_store_row' rfl 33 _ _ rfl ?_); refine ⟨v2.heap.size, 33, movC 0 0 0 0 false, rfl, rfl, ⟨_, heap_alloc_new _ _, (by kernel_rfl)⟩, Tryd.info_mvB _ _ _ _ _, Tryd.one_mvB _ _ _ _ _, ?_⟩; intro V2 hP hq; have HB2 := Lib.hid (And.intro (HA2.out.1.other hP) (And.intro (hP.row (HA2.out.2.1.alloc _) (Nat.ne_of_lt HA2.out.2.1.lt)) (And.intro HA2.out.2.2 (And.intro hq (Nat.ne_of_gt HA2.out.1.m.lt))))); clear hP hq))
        go_upto_region 20 with (first
          | ((with_reducible refine wp_load_box_g rfl _ rfl ?_); refine ⟨_, d, rfl, HC1.out.1.p, ?_⟩)
          | ((with_reducible refine mv_load_rowG rfl 33 _ rfl Tryd.underlying33 rfl ?_); refine ⟨_, _, _, rfl, HC1.out.1.m, Tryd.info_mvB _ _ _ _ _, ?_⟩)
          | (go_at_call 9; (with_reducible refine (HS3.out _).mono ?_); rintro r v3 ⟨rfl, hb⟩; have HC2 := Lib.hid (And.intro (HC1.out.1.next hb) (And.intro (HC1.out.2.1.below hb) (And.intro HC1.out.2.2.1 (And.intro (HC1.out.2.2.2.1.below hb) HC1.out.2.2.2.2)))); clear hb)
          | ((with_reducible refine wp_store_at rfl 4 _ _ rfl ?_); refine ⟨_, _, _, _, .bool true, rfl, rfl, rfl, HB2.out.1.m, (by show 4 < 5; omega), Tryd.size_boolS, ?_⟩; intro V hV hR3; have HC1 := Lib.hid (And.intro (show PlAt w d _ (movC (f : Int) (g : Int) 6 0 true) V from HB2.out.1.put hV hR3) (And.intro (hV.row HB2.out.2.1 HB2.out.2.2.1) (And.intro HB2.out.2.2.1 (And.intro (hV.row HB2.out.2.2.2.1 HB2.out.2.2.2.2) HB2.out.2.2.2.2)))); clear hV hR3)
          | ((with_reducible refine wp_store_at rfl 4 _ _ rfl ?_); refine ⟨_, _, _, _, .bool false, rfl, rfl, rfl, HC2.out.1.m, (by show 4 < 5; omega), Tryd.size_boolS, ?_⟩; intro V hV hR3; have HC3 := Lib.hid (And.intro (show PlAt w d _ (movC (f : Int) (g : Int) 6 0 false) V from HC2.out.1.put hV hR3) (And.intro (hV.row HC2.out.2.1 HC2.out.2.2.1) (hV.row HC2.out.2.2.2.1 HC2.out.2.2.2.2))); clear hV hR3))
        have HDD := HC3
        clear HB2 HC1 HC2 HC3 HB1 HA1 HA2 HM
        go_wp2_with (first
          | ((with_reducible refine wp_load_box_g rfl _ rfl ?_); refine ⟨_, d, rfl, HDD.out.1.p, ?_⟩)
          | ((with_reducible refine mv_load_rowG rfl 33 _ rfl Tryd.underlying33 rfl ?_); refine ⟨_, _, _, rfl, HDD.out.1.m, Tryd.info_mvB _ _ _ _ _, ?_⟩)
          | ((with_reducible refine mv_load_rowG rfl 33 _ rfl Tryd.underlying33 rfl ?_); refine ⟨_, _, _, rfl, HDD.out.2.1, Tryd.info_mvB _ _ _ _ _, ?_⟩)
          | ((with_reducible refine wpl_eql_mv rfl _ _ _ rfl ?_); refine ⟨((f : Int), (g : Int), 6, 0, false), ((f : Int), (g : Int), 6, 0, false), rfl, rfl, ?_⟩; rw [N.mv_selfF])
          | (go_at_call 9; (with_reducible refine (HS4.out _).mono ?_); rintro r v4 ⟨rfl, hb⟩; have HE := Lib.hid (HDD.out.1.next hb); have n2 := HE.out.m.cell 2; have n4 := (HDD.out.2.2.below hb).cell 4; rw [show (movC (f : Int) (g : Int) 6 0 false)[2]? = some (.int .u8 6) from rfl] at n2; rw [show (movC 0 0 0 0 false)[4]? = some (.bool false) from rfl] at n4; clear hb))
        go_ret
        exact ⟨by first | rfl | simp, HE.out.below⟩

set_option maxRecDepth 100000 in
set_option maxHeartbeats 4000000 in
theorem movesPlain_walk (c : Nat → Int) (f g k : Int) (w : World) (hc : PosOk c) (_hf : -128 ≤ f ∧ f ≤ 127) (_hg : -128 ≤ g ∧ g ≤ 127) (_hk : 0 ≤ k ∧ k ≤ 255) :
    Calls Tryd.prog 6 #[.agg (posC c), .int .i8 f, .int .i8 g, .int .u8 k] w fun e w' => e = .returned (.bool true) ∧ Below w.heap.size w w' := by
  by_cases h : N.known c ∧ (0 ≤ f ∧ f < 64) ∧ (0 ≤ g ∧ g < 64)
  · obtain ⟨hkn, hf, hg⟩ := h
    obtain ⟨f, rfl⟩ : ∃ q : Nat, f = (q : Int) := ⟨f.toNat, by omega⟩
    obtain ⟨g, rfl⟩ : ∃ q : Nat, g = (q : Int) := ⟨g.toNat, by omega⟩
    by_cases he : f = g
    · subst he
      exact movesPlain_same c f k w hc hkn (by omega)
    · exact movesPlain_other c f g k w hc hkn (by omega) (by omega) he
  · have H0 := Lib.hid (And.intro (PosAt.new w c) ((Below.refl _ w).alloc (Nat.le_refl _) (.cells (posC c) 31)))
    have i1 := N.kn_iff hc
    unfold N.kn at i1
    rw [Bool.and_eq_true, decide_eq_true_eq, decide_eq_true_eq] at i1
    by_cases k0 : f < 0
    · have d0 : decide (f < 0) = true := by simpa using k0
      clear k0 h i1 hc
      go_enter Tryd.func6, Tryd.ntmps6
      go_wp2_with (go_at_call 11; (with_reducible refine (awake11_any _).mono ?_); rintro r w1 ⟨rfl, hb⟩; have H1 := Lib.hid (And.intro (H0.out.1.below hb) (below_next H0.out.2 hb)); have c0 := H1.out.1.cell (i := 0) (by decide); have c78 := H1.out.1.cell (i := 78) (by decide); rw [show pk 0 = .u8 from rfl] at c0; rw [show pk 78 = .u8 from rfl] at c78; clear hb)
      go_ret
      exact ⟨rfl, H1.out.2⟩
    have d0 : decide (f < 0) = false := by simpa using k0
    by_cases k1 : 63 < f
    · have d1 : decide (63 < f) = true := by simpa using k1
      clear k0 k1 h i1 hc
      go_enter Tryd.func6, Tryd.ntmps6
      go_wp2_with (go_at_call 11; (with_reducible refine (awake11_any _).mono ?_); rintro r w1 ⟨rfl, hb⟩; have H1 := Lib.hid (And.intro (H0.out.1.below hb) (below_next H0.out.2 hb)); have c0 := H1.out.1.cell (i := 0) (by decide); have c78 := H1.out.1.cell (i := 78) (by decide); rw [show pk 0 = .u8 from rfl] at c0; rw [show pk 78 = .u8 from rfl] at c78; clear hb)
      go_ret
      exact ⟨rfl, H1.out.2⟩
    have d1 : decide (63 < f) = false := by simpa using k1
    by_cases k2 : g < 0
    · have d2 : decide (g < 0) = true := by simpa using k2
      clear k0 k1 k2 h i1 hc
      go_enter Tryd.func6, Tryd.ntmps6
      go_wp2_with (go_at_call 11; (with_reducible refine (awake11_any _).mono ?_); rintro r w1 ⟨rfl, hb⟩; have H1 := Lib.hid (And.intro (H0.out.1.below hb) (below_next H0.out.2 hb)); have c0 := H1.out.1.cell (i := 0) (by decide); have c78 := H1.out.1.cell (i := 78) (by decide); rw [show pk 0 = .u8 from rfl] at c0; rw [show pk 78 = .u8 from rfl] at c78; clear hb)
      go_ret
      exact ⟨rfl, H1.out.2⟩
    have d2 : decide (g < 0) = false := by simpa using k2
    by_cases k3 : 63 < g
    · have d3 : decide (63 < g) = true := by simpa using k3
      clear k0 k1 k2 k3 h i1 hc
      go_enter Tryd.func6, Tryd.ntmps6
      go_wp2_with (go_at_call 11; (with_reducible refine (awake11_any _).mono ?_); rintro r w1 ⟨rfl, hb⟩; have H1 := Lib.hid (And.intro (H0.out.1.below hb) (below_next H0.out.2 hb)); have c0 := H1.out.1.cell (i := 0) (by decide); have c78 := H1.out.1.cell (i := 78) (by decide); rw [show pk 0 = .u8 from rfl] at c0; rw [show pk 78 = .u8 from rfl] at c78; clear hb)
      go_ret
      exact ⟨rfl, H1.out.2⟩
    have d3 : decide (63 < g) = false := by simpa using k3
    by_cases k4 : 9 ≤ c 0
    · have d4 : decide (9 ≤ c 0) = true := by simpa using k4
      clear k0 k1 k2 k3 k4 h i1 hc
      go_enter Tryd.func6, Tryd.ntmps6
      go_wp2_with (go_at_call 11; (with_reducible refine (awake11_any _).mono ?_); rintro r w1 ⟨rfl, hb⟩; have H1 := Lib.hid (And.intro (H0.out.1.below hb) (below_next H0.out.2 hb)); have c0 := H1.out.1.cell (i := 0) (by decide); have c78 := H1.out.1.cell (i := 78) (by decide); rw [show pk 0 = .u8 from rfl] at c0; rw [show pk 78 = .u8 from rfl] at c78; clear hb)
      go_ret
      exact ⟨rfl, H1.out.2⟩
    have d4 : decide (9 ≤ c 0) = false := by simpa using k4
    by_cases k5 : 1 < c 78
    · have d5 : decide (1 < c 78) = true := by simpa using k5
      clear k0 k1 k2 k3 k4 k5 h i1 hc
      go_enter Tryd.func6, Tryd.ntmps6
      go_wp2_with (go_at_call 11; (with_reducible refine (awake11_any _).mono ?_); rintro r w1 ⟨rfl, hb⟩; have H1 := Lib.hid (And.intro (H0.out.1.below hb) (below_next H0.out.2 hb)); have c0 := H1.out.1.cell (i := 0) (by decide); have c78 := H1.out.1.cell (i := 78) (by decide); rw [show pk 0 = .u8 from rfl] at c0; rw [show pk 78 = .u8 from rfl] at c78; clear hb)
      go_ret
      exact ⟨rfl, H1.out.2⟩
    have d5 : decide (1 < c 78) = false := by simpa using k5
    exact absurd ⟨i1.1 (by omega), by omega, by omega⟩ h
end Go.Proofs.YtldpejeodhkgdaaDoor
