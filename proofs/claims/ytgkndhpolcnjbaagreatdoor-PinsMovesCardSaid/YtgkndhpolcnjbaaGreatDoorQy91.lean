/- Several texts in one: PmC, PmD. -/

import Derived.Test.YtgkndhpolcnjbaaGreatDoorQy9
import Derived.Test.YtgkndhpolcnjbaaGreatDoorQb3
import Derived.Test.YtgkndhpolcnjbaaGreatDoorQa4
import Derived.Test.YtgkndhpolcnjbaaGreatDoorQy8
namespace Go.Proofs.YtgkndhpolcnjbaaGreatDoor
open Go.RowKit Go.Sort
namespace A
/-- The board behind a plain move that takes nothing but on To, in Standard; the variant. -/
theorem after_plain (c : Nat → Int) (F G : Nat) (p t : Int) (s : Nat) (h0 : c 0 = 0) (ht : t < 0 ∨ t = (G : Int)) :
    after c ((F : Int), (G : Int), p, 0, false) t (1 + s) = if s < 64 then (if s = G then (if p ≠ 0 then P.make (c 78) p else c (1 + F)) else if s = F then 0 else c (1 + s)) else after c ((F : Int), (G : Int), p, 0, false) t (1 + s) := by
  split
  · rename_i hs
    have hF : cellF ((F : Int), (G : Int), p, 0, false) = 1 + F := by unfold cellF; simp
    have hG : cellT ((F : Int), (G : Int), p, 0, false) = 1 + G := by unfold cellT; simp
    have hT : s ≠ G → (if 0 ≤ t then upd c (1 + t.toNat) 0 else c) (1 + s) = c (1 + s) := fun e => by
      split
      · exact u_ne _ _ (by omega)
      · rfl
    have hm : men c ((F : Int), (G : Int), p, 0, false) t (1 + s) = if s = G then (if p ≠ 0 then P.make (c 78) p else c (1 + F)) else if s = F then 0 else c (1 + s) := by
      unfold men
      rw [hF, hG, if_neg (by simp), if_neg (by simp)]
      by_cases hp : p ≠ 0
      · rw [if_pos hp, if_pos hp]
        by_cases e : s = G
        · rw [if_pos e, e]; simp [upd]
        · rw [if_neg e, u_ne _ _ (by omega), u_ne _ _ (by omega)]
          by_cases e2 : s = F
          · rw [if_pos e2, e2]; simp [upd]
          · rw [if_neg e2, u_ne _ _ (by omega), hT e]
      · rw [if_neg hp, if_neg hp]
        by_cases e : s = G
        · rw [if_pos e, e]; simp [upd]
        · rw [if_neg e, u_ne _ _ (by omega)]
          by_cases e2 : s = F
          · rw [if_pos e2, e2]; simp [upd]
          · rw [if_neg e2, u_ne _ _ (by omega), hT e]
    have z1 := men_0 c ((F : Int), (G : Int), p, 0, false) t
    unfold after
    rw [turn_bd _ _ (by omega), clocks_bd _ _ _ _ _ (by omega), pass_bd _ _ _ _ (by omega), rights_bd _ _ _ _ _ (by omega)]
    have hpk : pocket c (men c ((F : Int), (G : Int), p, 0, false) t) ((F : Int), (G : Int), p, 0, false) t = men c ((F : Int), (G : Int), p, 0, false) t := by
      unfold pocket
      rw [if_pos (.inl (by rw [z1, h0]; decide))]
    rw [hpk]
    unfold blow
    rw [if_pos (.inl (by rw [z1, h0]; decide)), hm]
  · rfl
theorem after_0 (c : Nat → Int) (m : Mv) (t : Int) (h0 : c 0 = 0) : after c m t 0 = 0 := by
  have z1 := men_0 c m t
  unfold after
  rw [turn_bd _ _ (by omega), clocks_bd _ _ _ _ _ (by omega), pass_bd _ _ _ _ (by omega), rights_bd _ _ _ _ _ (by omega)]
  have hpk : pocket c (men c m t) m t = men c m t := by
    unfold pocket
    rw [if_pos (.inl (by rw [z1, h0]; decide))]
  rw [hpk]
  unfold blow
  rw [if_pos (.inl (by rw [z1, h0]; decide)), z1, h0]
end A
namespace W
theorem make_of (T k : Int) (hT : T = 0 ∨ T = 1) (hk : 2 ≤ k ∧ k ≤ 5) : P.kind (P.make T k) ≠ 0 ∧ P.kind (P.make T k) ≠ 6 ∧ D.color (P.make T k) = T := by
  rcases hT with rfl | rfl
  · rcases (show k = 2 ∨ k = 3 ∨ k = 4 ∨ k = 5 by omega) with rfl | rfl | rfl | rfl <;> decide
  · rcases (show k = 2 ∨ k = 3 ∨ k = 4 ∨ k = 5 by omega) with rfl | rfl | rfl | rfl <;> decide
theorem own_mine (c : Nat → Int) (s : Nat) (T : Int) : D.own c s T = N.mine c T s := by
  unfold D.own D.empty N.mine
  rw [bne]
/-- A move of the list, in Standard, of a piece that is no king, that takes nothing in passing. -/
theorem sit_of (c : Nat → Int) (m : Mv) (k : Nat) (hc : PosOk c) (h0 : c 0 = 0) (hk : k < 64) (hkf : D.find c (c 78) 6 = (k : Int)) (hm : m ∈ D.lst c) (hn : c (1 + m.1.toNat) % 8 ≠ 6) (ht : Z.taken c m < 0 ∨ Z.taken c m = m.2.1) :
    ∃ (F G : Nat) (p y : Int), m = ((F : Int), (G : Int), p, 0, false) ∧ F < 64 ∧ G < 64 ∧ Sit c (A.after c m (Z.taken c m)) (c 78) F G k y ∧ P.kind y ≠ 6 ∧ A.after c m (Z.taken c m) 0 = 0 := by
  have hq := A.after_ok c m hc (by unfold A.all; exact List.mem_append.2 (.inl hm))
  have h78 := (A.is_plain c m hm).1
  have t0 := (pos_u8 hc (i := 78) (by decide) rfl).1
  obtain ⟨t, hte⟩ : ∃ t : Nat, c 78 = (t : Int) := ⟨(c 78).toNat, by omega⟩
  have hm2 := hm
  unfold D.lst at hm2
  split at hm2
  · rw [hte, Int.toNat_natCast] at hm2
    obtain ⟨F, G, hF, hG, hmay, he⟩ := (mem_list13 ..).1 hm2
    obtain ⟨kk, rfl, hkk⟩ := (mem_each ..).1 he
    have hb := pos_bd hc
    have e1 : (Z.mv F G kk).1 = (F : Int) := rfl
    have e2 : (Z.mv F G kk).2.1 = (G : Int) := rfl
    rw [e1, Int.toNat_natCast] at hn
    rw [e2] at ht
    unfold D.may at hmay
    simp only [Bool.and_eq_true, decide_eq_true_eq, Bool.not_eq_true'] at hmay
    obtain ⟨hne, hoF, hoG, _⟩ := hmay
    rw [own_mine] at hoF hoG
    obtain ⟨kF, cF⟩ := (mine_iff c _ F).1 hoF
    have hking : N.mine c (t : Int) k = true := by
      have := T.find_is c (c 78) (by omega)
      rw [hkf, Int.toNat_natCast] at this
      unfold D.is at this
      rw [Bool.and_eq_true, beq_iff_eq, beq_iff_eq, hte] at this
      exact (mine_iff c _ k).2 ⟨by rw [this.1.1]; decide, this.1.2⟩
    have hpr : kk = 0 ∨ (2 ≤ kk ∧ kk ≤ 5) := by
      split at hkk
      · right
        rw [h0] at hkk
        have : V.promos (0 : Int).toNat = [2, 3, 4, 5] := by decide
        rw [this] at hkk
        simp at hkk
        omega
      · left; exact hkk
    obtain ⟨xF0, xF1⟩ := hb F hF
    have hk6 : P.kind (c (1 + F)) ≠ 6 := fun e => by
      rw [D.kind_of _ xF0 xF1] at e
      split at e
      · cases e
      · exact hn e
    refine ⟨F, G, (kk : Int), if (kk : Int) ≠ 0 then P.make (c 78) (kk : Int) else c (1 + F), rfl, hF, hG, ⟨hb, pos_bd hq, by omega, by omega, hF, hG, hk, fun e => ?_, by rw [hte]; exact hoF, hkf, fun s hs => ?_, hne, ?_, ?_⟩, ?_, A.after_0 c _ _ h0⟩
    · rw [← e, hking] at hoG; cases hoG
    · have := A.after_plain c F G (kk : Int) (Z.taken c (Z.mv F G kk)) s h0 ht
      rw [if_pos hs] at this
      exact this
    · split
      · exact (make_of _ _ (by omega) (by omega)).1
      · exact kF
    · split
      · exact (make_of _ _ (by omega) (by omega)).2.2
      · rw [cF, hte]
    · split
      · exact (make_of _ _ (by omega) (by omega)).2.1
      · exact hk6
  · cases hm2
/-- In Standard a king is in check just if a foe hits it. -/
theorem check_std (q : Nat → Int) (T : Int) (k : Nat) (hq : BdOk q) (hT : T = 0 ∨ T = 1) (h0 : q 0 = 0) (hk : k < 64) (hf : D.find q T 6 = (k : Int)) : K.check q T = true ↔ ∃ a, a < 64 ∧ N.foe q T k a = true := by
  have hking : D.king q T = (k : Int) := by
    unfold D.king
    rw [hf, h0]
    have hr : D.royal 0 T = true := by rcases hT with rfl | rfl <;> decide
    rw [hr, decide_eq_false (by omega)]
    rfl
  rw [check_eq q T hq (by omega)]
  unfold D.check
  rw [hking, decide_eq_true (by omega), decide_eq_true (by omega), Bool.true_and, Bool.true_and]
  have ho : K.oc T ≤ 1 ∧ 0 ≤ K.oc T := by unfold K.oc; omega
  have hby : K.by q (k : Int) (K.oc T) = D.by' q (k : Int) (K.oc T) := by rw [by_eq q _ _ hq ho.2, if_pos ho.1]
  rw [← hby, U_ne, decide_eq_true_eq]
  have hb : ∀ s, s < 64 → bit (K.by q (k : Int) (K.oc T)) s = N.foe q T k s := fun s hs => N.bit_foe q T k s hq hk hs (by omega) (by omega)
  constructor
  · intro hne
    apply Classical.byContradiction
    intro hn
    exact hne (bit_ext fun j hj => by
      rw [bit_zero, hb j hj]
      cases e : N.foe q T k j
      · rfl
      · exact absurd ⟨j, hj, e⟩ hn)
  · rintro ⟨a, ha, hfa⟩ e
    rw [← hb a ha, e, bit_zero] at hfa
    cases hfa
theorem king_is (c : Nat → Int) (color : Int) (h : 0 ≤ D.find c color 6) : D.is c (D.find c color 6).toNat color 6 = true ∧ (D.find c color 6).toNat < 64 := T.find_is c color h
/-- The king stands where it stood. -/
theorem Sit.find {c q : Nat → Int} {T : Int} {F G k : Nat} {y : Int} (h : Sit c q T F G k y) (hF : P.kind (c (1 + F)) ≠ 6) (hy : P.kind y ≠ 6) (h1 : OneK c T) : D.find q T 6 = (k : Int) := by
  have hik := king_is c T (by rw [h.king]; omega)
  rw [h.king, Int.toNat_natCast] at hik
  have kF : k ≠ F := fun e => by
    have := hik.1
    unfold D.is at this
    rw [Bool.and_eq_true, beq_iff_eq, beq_iff_eq] at this
    rw [e] at this
    exact hF this.1
  have qi : ∀ s, s < 64 → D.is q s T 6 = true → D.is c s T 6 = true := fun s hs hi => by
    by_cases sG : s = G
    · subst sG
      unfold D.is at hi
      rw [h.q_G, Bool.and_eq_true, beq_iff_eq] at hi
      exact absurd hi.1 hy
    · by_cases sF : s = F
      · subst sF
        unfold D.is at hi
        rw [Bool.and_eq_true, beq_iff_eq, h.q_F] at hi
        exact absurd hi.1 (by decide)
      · unfold D.is at hi ⊢
        rwa [h.q_other hs sG sF] at hi
  refine find_of q T (fun i j hi hj a b => h1 i j hi hj (qi i hi a) (qi j hj b)) k h.k64 ?_
  have := hik.1
  unfold D.is at this ⊢
  rwa [h.q_other h.k64 h.kG kF]
end W
end Go.Proofs.YtgkndhpolcnjbaaGreatDoor
namespace Go.Proofs.YtgkndhpolcnjbaaGreatDoor
open Go.RowKit Go.Sort
set_option maxRecDepth 100000 in
theorem lhas_yes (q : Nat → Int) (color : Int) (w : World) (hq : BdOk q) (hT : Tb w) (hf : 0 ≤ S.find q color 6) :
    Calls Tryz.prog 87 #[.agg (posC q), .int .u8 color] w fun e w' => e = .returned (.bool true) ∧ Below w.heap.size w w' := by
  have HQ := Lib.hid hq
  have hp := PosAt.new w q
  have hb0 : Below w.heap.size w (w.alloc (.cells (posC q) 31)) := (Below.refl _ _).alloc (Nat.le_refl _) _
  have HT := Lib.hid (tb_below hT hb0)
  have hd := decide_eq_true hf
  obtain ⟨n, hn⟩ : ∃ n, S.find q color 6 = n := ⟨_, rfl⟩
  have HF : Hid (∀ W, Tb W → Calls Tryz.prog 80 #[.agg (posC q), .int .u8 color, .int .u8 6] W fun e w' => e = .returned (.int .i64 n) ∧ Below W.heap.size W w') := Lib.hid (fun W h => hn ▸ find_any q color 6 W HQ.out h)
  rw [hn] at hd
  clear hf hn hT hq
  go_enter Tryz.func87, Tryz.ntmps87
  go_wp2_with (first
    | ((with_reducible refine wp_load_box rfl _ rfl ?_); refine ⟨_, _, rfl, (by assumption), ?_⟩)
    | (go_at_call 80; refine (HF.out _ HT.out).mono ?_; rintro e w1 ⟨rfl, hb1⟩))
  go_ret
  exact ⟨rfl, below_next hb0 hb1⟩
set_option maxRecDepth 100000 in
set_option maxHeartbeats 2000000 in
theorem lwell_std (c q : Nat → Int) (F G : Nat) (p d : Int) (ca : Bool) (t : Nat) (chk : Bool) (w : World) (hc : PosOk c) (hT : Tb w) (h0 : c 0 = 0) (ht : c 78 = (t : Int)) (ht1 : t ≤ 1)
    (hm : ((F : Int), (G : Int), p, d, ca) ∈ A.all c) (hq : A.after c ((F : Int), (G : Int), p, d, ca) (Z.taken c ((F : Int), (G : Int), p, d, ca)) = q) (q0 : q 0 = 0) (hf : 0 ≤ S.find q (t : Int) 6) (hk : K.check q (t : Int) = chk) :
    Calls Tryz.prog 28 #[.agg (posC c), .agg #[.int .i8 (F : Int), .int .i8 (G : Int), .int .u8 p, .int .u8 d, .bool ca]] w fun e w' => e = .returned (.bool (!chk)) ∧ Below w.heap.size w w' := by
  have hqo := pos_bd (hq ▸ A.after_ok c _ hc hm : PosOk q)
  have HM : Hid (∀ W, Tb W → Calls Tryz.prog 19 #[.agg (posC c), .agg #[.int .i8 (F : Int), .int .i8 (G : Int), .int .u8 p, .int .u8 d, .bool ca]] W fun e w' => e = .returned (.tuple #[.agg (posC q), .bool true]) ∧ Below W.heap.size W w') := Lib.hid (fun W h => hq ▸ amove_any c _ W hc h hm)
  have HH : Hid (∀ W, Tb W → Calls Tryz.prog 87 #[.agg (posC q), .int .u8 (t : Int)] W fun e w' => e = .returned (.bool true) ∧ Below W.heap.size W w') := Lib.hid (fun W h => lhas_yes q (t : Int) W hqo h hf)
  have HK : Hid (∀ W, Tb W → Calls Tryz.prog 88 #[.agg (posC q), .int .u8 (t : Int)] W fun e w' => e = .returned (.bool chk) ∧ Below W.heap.size W w') := Lib.hid (fun W h => hk ▸ check_any q (t : Int) W hqo h (by omega) (by omega))
  have HR : Hid (∀ W, Calls Tryz.prog 86 #[.int .u8 0, .int .u8 (t : Int)] W fun e w' => e = .returned (.bool true) ∧ Below W.heap.size W w') := Lib.hid (fun W => royal_int 0 (t : Int) true W (by omega) (by omega) (by rcases (show t = 0 ∨ t = 1 by omega) with rfl | rfl <;> decide))
  have HT := Lib.hid (fun W (hb : Below w.heap.size w W) => tb_below hT hb)
  have HC : Hid (∀ W, PosAt W w.heap.size c → W.cell? ⟨w.heap.size, 0, none⟩ = some (.int .u8 0) ∧ W.cell? ⟨w.heap.size, 78, none⟩ = some (.int .u8 (t : Int))) := Lib.hid (fun W hp => by
    have h1 := hp.cell (i := 0) (by decide)
    have h2 := hp.cell (i := 78) (by decide)
    rw [h0, show pk 0 = .u8 from rfl] at h1
    rw [ht, show pk 78 = .u8 from rfl] at h2
    exact ⟨h1, h2⟩)
  have hp := (PosAt.new w c).alloc (.cells #[.int .i8 (F : Int), .int .i8 (G : Int), .int .u8 p, .int .u8 d, .bool ca] 40)
  have hm1 := RowAt.new (w.alloc (.cells (posC c) 31)) #[.int .i8 (F : Int), .int .i8 (G : Int), .int .u8 p, .int .u8 d, .bool ca] 40
  have hbr : Below w.heap.size w ((w.alloc (.cells (posC c) 31)).alloc (.cells #[.int .i8 (F : Int), .int .i8 (G : Int), .int .u8 p, .int .u8 d, .bool ca] 40)) := ((Below.refl _ _).alloc (Nat.le_refl _) _).alloc (by simp) _
  rw [World.size_alloc] at hm1
  obtain ⟨W, hW⟩ : ∃ W, (w.alloc (.cells (posC c) 31)).alloc (.cells #[.int .i8 (F : Int), .int .i8 (G : Int), .int .u8 p, .int .u8 d, .bool ca] 40) = W := ⟨_, rfl⟩
  rw [hW] at hp hm1 hbr
  clear hqo hc hT h0 ht hm hq q0 hf hk
  go_enter Tryz.func28, Tryz.ntmps28
  go_upto_region 2 with (first
    | ((with_reducible refine wp_load_box rfl _ rfl ?_); refine ⟨w.heap.size, c, rfl, (by assumption), ?_⟩)
    | ((with_reducible refine wp_load_row' rfl 40 _ rfl Tryz.underlying40 rfl ?_); refine ⟨w.heap.size + 1, 40, #[.int .i8 (F : Int), .int .i8 (G : Int), .int .u8 p, .int .u8 d, .bool ca], rfl, (by assumption), Tryz.size_Mv, ?_⟩)
    | (go_at_call 19; refine (HM.out _ (HT.out _ hbr)).mono ?_; rintro e w6 ⟨rfl, hb6⟩; replace hp := hp.below hb6; replace hbr := below_next hbr hb6; have hl6 := hp.lt; clear hb6 hm1)
    | ((with_reducible refine wp_store_box rfl _ _ rfl ?_); refine ⟨w6.heap.size, q, rfl, rfl, ⟨_, heap_alloc_new _ _, (by kernel_rfl)⟩, ?_⟩; intro W7 hP7 hq7; replace hp : PosAt W7 w.heap.size c := ⟨(hP7.block _ (by omega)).trans (hp.alloc _).heap⟩; replace hbr := hP7.below (hbr.alloc hbr.size _) hbr.size; clear hP7))
  obtain ⟨bq, hbq⟩ : ∃ bq, w6.heap.size = bq := ⟨_, rfl⟩
  rw [hbq] at hq7
  try rw [hbq]
  clear hW hbq hl6
  obtain ⟨k0, k78⟩ := HC.out _ hp
  go_upto_region 5 with (first
    | (go_at_call 86; refine (HR.out _).mono ?_; rintro e w8 ⟨rfl, hb8⟩; replace hp := hp.below hb8; replace hq7 := hq7.below hb8; replace hbr := below_next hbr hb8; clear hb8 k0 k78; obtain ⟨k0, k78⟩ := HC.out _ hp))
  go_upto_region 7 with (first
    | ((with_reducible refine wp_load_box rfl _ rfl ?_); refine ⟨bq, q, rfl, hq7, ?_⟩)
    | (go_at_call 87; refine (HH.out _ (HT.out _ hbr)).mono ?_; rintro e w9 ⟨rfl, hb9⟩; replace hp := hp.below hb9; replace hq7 := hq7.below hb9; replace hbr := below_next hbr hb9; clear hb9 k0 k78; obtain ⟨k0, k78⟩ := HC.out _ hp))
  cases chk
  all_goals
    go_wp2_with (first
      | ((with_reducible refine wp_load_box rfl _ rfl ?_); refine ⟨bq, q, rfl, hq7, ?_⟩)
      | (go_at_call 88; refine (HK.out _ (HT.out _ hbr)).mono ?_; rintro e w10 ⟨rfl, hb10⟩; replace hp := hp.below hb10; replace hbr := below_next hbr hb10; clear hb10 k0 k78; obtain ⟨k0, k78⟩ := HC.out _ hp))
    go_ret
    exact ⟨rfl, hbr⟩
end Go.Proofs.YtgkndhpolcnjbaaGreatDoor
