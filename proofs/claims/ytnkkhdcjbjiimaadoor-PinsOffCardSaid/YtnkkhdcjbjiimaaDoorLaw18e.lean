/- Blocks: the program's squares and the document's are the same. -/
import Derived.Test.YtnkkhdcjbjiimaaDoorRef18e
namespace Go.Proofs.YtnkkhdcjbjiimaaDoor
open Go.RowKit Go.Sort

namespace N
theorem inRay_self_tab : ∀ (a : Fin 64) (d : Fin 8), inRay a.val d.val a.val = false := by decide +kernel
theorem inRay_self (a d : Nat) (ha : a < 64) (hd : d < 8) : inRay a d a = false := inRay_self_tab ⟨a, ha⟩ ⟨d, hd⟩
theorem tow_some (a b : Int) : ∀ n k j, k ≤ j → j < k + n → B.has (R.ray a j) b = true → R.towFrom a b k n ≠ -1
  | 0, k, j, h1, h2, _ => by omega
  | n + 1, k, j, h1, h2, h => by
    rw [R.towFrom]
    split
    · omega
    · rename_i hn
      by_cases e : j = k
      · subst e; exact absurd h hn
      · exact tow_some a b n (k + 1) j (by omega) (by omega) h
theorem bit_between (a b j : Nat) (ha : a < 64) (hb : b < 64) (hj : j < 64) (h : (D.straight a b || D.across a b) = true) : bit (R.between (a : Int) (b : Int)) j = btw a b j := by
  obtain ⟨d0, hd0, hr0⟩ := line_dir a b ha hb h
  have hne : R.towards (a : Int) b ≠ -1 := tow_some a b 8 0 d0 (by omega) (by omega) (by rw [has_bit _ b hb, bit_ray a d0 b ha hd0 hb]; exact hr0)
  rcases R.tow_bd (a : Int) b 8 0 with h1 | ⟨d, _, hd, h1, h2⟩
  · exact absurd h1 hne
  · have ht : R.towards (a : Int) b = (d : Int) := h1
    have hd8 : d < 8 := by omega
    rw [has_bit _ b hb, bit_ray a d b ha hd8 hb] at h2
    unfold R.between
    rw [ht, if_neg (by omega), Int.toNat_natCast, bit_and, bit_ray a d j ha hd8 hj, bit_ray b _ j hb (by omega) hj, inRay_back j d b hd8, btw_ray a d b j ha hd8 hb hj h2]
theorem btw_ends (a b : Nat) (ha : a < 64) (hb : b < 64) (h : (D.straight a b || D.across a b) = true) : btw a b a = false ∧ btw a b b = false := by
  obtain ⟨d, hd, hr⟩ := line_dir a b ha hb h
  exact ⟨by rw [btw_ray a d b a ha hd hb ha hr, inRay_self a d ha hd]; rfl, by rw [btw_ray a d b b ha hd hb hb hr, inRay_self b d hb hd, Bool.and_false]⟩
theorem bit_outTo (g : Nat → Bool) (o : BitVec 64) (j : Nat) (hj : j < 64) : ∀ n, n ≤ 64 → bit (outTo g o n) j = (bit o j || (decide (j < n) && g j))
  | 0, _ => by simp [outTo]
  | n + 1, hn => by
    have ih := bit_outTo g o j hj n (by omega)
    rw [outTo]
    split
    · rename_i hg
      rw [bit_or, ih, bit_one n j (by omega)]
      by_cases e : j = n
      · subst e; simp [hg]
      · have : decide (j < n + 1) = decide (j < n) := by rw [Bool.eq_iff_iff]; simp; omega
        rw [this]; simp [e]
    · rename_i hg
      rw [ih]
      by_cases e : j = n
      · subst e; simp at hg; simp [hg]
      · have : decide (j < n + 1) = decide (j < n) := by rw [Bool.eq_iff_iff]; simp; omega
        rw [this]
theorem bit_foe (c : Nat → Int) (color : Int) (k s : Nat) (hc : BdOk c) (hk : k < 64) (hs : s < 64) (h0 : 0 ≤ color) (h1 : color ≤ 1) :
    bit (K.by c (k : Int) (K.oc color)) s = foe c color k s := by
  have ho : K.oc color = 1 - color := by unfold K.oc; omega
  rw [ho, bit_by c s k (1 - color) hc hs hk (by omega) (by omega)]
  unfold foe
  obtain ⟨x0, x1⟩ := hc s hs
  cases hz : (P.kind (c (1 + s)) != 0)
  · rfl
  · rw [isB_kind _ x0 x1] at hz
    have h2 := (isB_true _ x0 x1 hz).2.2
    rw [color_eq _ hz] at h2
    have : (D.color (c (1 + s)) == 1 - color) = (D.color (c (1 + s)) != color) := by
      rw [Bool.eq_iff_iff, beq_iff_eq, bne_iff_ne]; omega
    rw [this]
theorem foes_cnt (c : Nat → Int) (color : Int) (k : Nat) (b : BitVec 64) (h : ∀ s, s < 64 → bit b s = foe c color k s) : ∀ n, n ≤ 64 → foes c color k n = C.cnt b.toNat n
  | 0, _ => rfl
  | n + 1, hn => by rw [foes, cnt_bit, foes_cnt c color k b h n (by omega), h n (by omega)]
theorem blocks_eq (c : Nat → Int) (color : Int) (hc : BdOk c) (h0 : 0 ≤ color) : N.blocks c color = N.dblocks c color := by
  unfold N.blocks N.dblocks
  rw [find_eq c color hc]
  by_cases hf : color ≤ 1 ∧ 0 ≤ D.find c color 6
  · rw [if_pos hf, if_pos hf]
    obtain ⟨k, hk, he⟩ : ∃ k : Nat, k < 64 ∧ D.find c color 6 = (k : Int) := by
      rcases D.find_bd c color 6 with h | h
      · omega
      · exact h
    rw [he, Int.toNat_natCast]
    have hb : ∀ s, s < 64 → bit (K.by c (k : Int) (K.oc color)) s = foe c color k s := fun s hs => bit_foe c color k s hc hk hs h0 hf.1
    generalize K.by c (k : Int) (K.oc color) = b at *
    have hn : foes c color k 64 = B.count b := foes_cnt c color k b hb 64 (by omega)
    simp only []
    rw [hn]
    by_cases c0 : B.count b = 0
    · rw [if_pos c0, if_pos c0]
    · rw [if_neg c0, if_neg c0]
      by_cases c1 : B.count b = 1
      · rw [if_pos c1, if_neg (show ¬ 1 < B.count b by omega)]
        obtain ⟨s, hs, rfl⟩ := (count_one b).1 c1
        have hl : lastFoe c color k 64 = (s : Int) := by
          rcases last_spec c color k 64 with ⟨h, _⟩ | ⟨j, hj, hl, hfj⟩
          · omega
          · rw [← hb j hj, bit_one s j hs] at hfj
            rw [hl, of_decide_eq_true hfj]
        have hfs : foe c color k s = true := by rw [← hb s hs, bit_one s s hs]; simp
        rw [first_one s hs, hl, Int.toNat_natCast]
        refine bit_ext fun j hj => ?_
        rw [bit_outTo _ _ j hj 64 (by omega)]
        unfold blockIn
        cases hsl : slider (P.kind (c (1 + s)))
        · rw [if_neg (by simp)]; simp
        · have hln : (D.straight k s || D.across k s) = true := by
            rw [line_back]
            refine slider_line c s k ?_ hsl
            unfold foe at hfs; rw [Bool.and_eq_true, Bool.and_eq_true] at hfs; exact hfs.2.2
          rw [if_pos rfl, bit_or, bit_between k s j hk hs hj hln, betw_btw j k s hk hs hln]
          obtain ⟨e1, e2⟩ := btw_ends k s hk hs hln
          simp only [hj, decide_true, Bool.true_and]
          by_cases ek : j = k
          · subst ek; rw [e1]; simp
          · by_cases es : j = s
            · subst es; rw [e2]; simp
            · have h1 : ((j : Int) != (k : Int)) = true := by rw [bne_iff_ne]; omega
              have h2 : ((j : Int) != (s : Int)) = true := by rw [bne_iff_ne]; omega
              rw [h1, h2]; rfl
      · rw [if_neg c1, if_pos (show 1 < B.count b by omega)]
  · rw [if_neg hf, if_neg hf]
end N

set_option maxRecDepth 100000 in
set_option maxHeartbeats 4000000 in
theorem pinsBlocks_walk (c : Nat → Int) (color : Int) (w : World) (hc : PosOk c) (h0 : 0 ≤ color) (hT : Tb w) :
    Calls Tryd.prog 10 #[.agg (posC c), .int .u8 color] w fun e w' => e = .returned (.bool true) ∧ Below w.heap.size w w' := by
  have Hc := Lib.hid (pos_bd hc)
  have hb0 : Below w.heap.size w (w.alloc (.cells (posC c) 31)) := (Below.refl _ _).alloc (Nat.le_refl _) _
  have HT := Lib.hid (fun W (hb : Below w.heap.size w W) => tb_below hT hb)
  have hp := PosAt.new w c
  have hbe := N.blocks_eq c color Hc.out h0
  obtain ⟨b, hb⟩ : ∃ b, N.blocks c color = b := ⟨_, rfl⟩
  have hbd : N.dblocks c color = b := by rw [← hbe, hb]
  have hq : (U b == U b) = true := by simp
  have P1 := Lib.hid (fun W (hT : Tb W) => (show Calls Tryd.prog 32 #[.agg (posC c), .int .u8 color] W fun e w' => e = .returned (.int .u64 (U b)) ∧ Below W.heap.size W w' by rw [← hb]; exact pblocks_any c color W Hc.out hT))
  have P2 := Lib.hid (fun W => (show Calls Tryd.prog 33 #[.agg (posC c), .int .u8 color] W fun e w' => e = .returned (.int .u64 (U b)) ∧ Below W.heap.size W w' by rw [← hbd]; exact d18blocks_any c color W Hc.out))
  clear hT hc hbe hbd hb
  go_enter Tryd.func10, Tryd.ntmps10
  go_wp2_with (first
    | ((with_reducible refine wp_load_box rfl _ rfl ?_); refine ⟨_, _, rfl, (by assumption), ?_⟩))
  have HT2 := Lib.hid (HT.out _ hb0)
  refine region_below (by kernel_rfl) (by kernel_rfl) ?_
  repeat (first
    | go_big_quiet_step (first
      | (go_at_call 32; exact quiet_below (P1.out _ (tb_grow HT2.out)))
      | (go_at_call 33; exact quiet_below (P2.out _))
      | (go_at_call 27; exact quiet_below (awake18_any _ (tb_grow HT2.out))))
    | (go_big_quiet_want; refine quiet_load_box _ rfl ⟨_, _, rfl, hp, ?_⟩; simp only [Act.put, List.setIfInBounds_toArray, List.set_cons_succ, List.set_cons_zero]; go_big_quiet_on))
  refine wpQuiet_nil ?_
  intro w3 hb3
  replace hb0 := below_next hb0 hb3
  clear hb3 hp
  go_wp2
  go_ret
  exact ⟨rfl, hb0⟩

end Go.Proofs.YtnkkhdcjbjiimaaDoor
