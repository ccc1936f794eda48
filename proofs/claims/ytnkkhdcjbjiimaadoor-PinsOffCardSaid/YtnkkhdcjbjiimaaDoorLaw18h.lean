/- The laws of layer 18: king; what PinsFew says, plainly. -/
import Derived.Test.YtnkkhdcjbjiimaaDoorLaw18g
namespace Go.Proofs.YtnkkhdcjbjiimaaDoor
open Go.RowKit Go.Sort

set_option maxRecDepth 100000 in
set_option maxHeartbeats 2000000 in
theorem king18_any (c : Nat → Int) (color : Int) (w : World) (hc : BdOk c) (hk : color = 0 ∨ color = 1) :
    Calls Tryd.prog 35 #[.agg (posC c), .int .u8 color] w fun e w' => e = .returned (.int .i64 (D.find c color 6)) ∧ Below w.heap.size w w' := by
  have Hc := Lib.hid hc
  clear hc
  have hw8 : (8 * color) % 256 = 8 * color := by omega
  have hw9 : (8 * color + 6) % 256 = 8 * color + 6 := by omega
  have Hk := Lib.hid hk
  clear hk
  go_enter Tryd.func35, Tryd.ntmps35
  go_wp2
  have HW := Lib.hid (heap_alloc_new w (.cells (posC c) 31))
  have Hb0 := Lib.hid ((Below.refl w.heap.size w).alloc (Nat.le_refl _) (.cells (posC c) 31))
  go_loopw [5] (fun i wr => ∃ k : Nat, k ≤ 64 ∧ i = .int .i64 (k : Int) ∧ D.find c color 6 = D.first (fun s => D.is c s color 6) k (64 - k) ∧ wr.heap[w.heap.size]? = some (.cells (posC c) 31 (0, 0)) ∧ Below w.heap.size w wr) (fun i _ => 64 - (intOf i).toNat)
  case atStart => exact ⟨0, Nat.zero_le _, rfl, rfl, HW.out, Hb0.out⟩
  case round =>
    obtain ⟨k, hk, rfl, he, hp, hbr⟩ := hrel
    have He := Lib.hid he
    clear he
    by_cases hlt : k < 64
    · obtain ⟨x0, x1⟩ := Hc.out k hlt
      have hcl := bd_cell hp k hlt
      have hst : D.first (fun s => D.is c s color 6) k (64 - k) = if (c (1 + k) == 8 * color + 6) = true then (k : Int) else D.first (fun s => D.is c s color 6) (k + 1) (64 - (k + 1)) := by
        rw [show 64 - k = (64 - (k + 1)) + 1 by omega, D.first, isK_is _ color x0 x1 Hk.out]; rfl
      cases hx : (c (1 + k) == 8 * color + 6)
      · rw [hx, if_neg (by simp)] at hst
        have Hst := Lib.hid hst
        clear hst
        go_wp2
        exact ⟨⟨k + 1, by omega, by go_num, by rw [He.out, Hst.out], hp, hbr⟩, by simp [intOf]; omega⟩
      · rw [hx, if_pos rfl] at hst
        have Hst := Lib.hid hst
        clear hst
        go_wp2
        go_ret
        exact ⟨ret_int (by rw [He.out, Hst.out]), hbr⟩
    · obtain rfl : k = 64 := by omega
      go_wp2
      go_ret
      exact ⟨ret_int (by rw [He.out]; rfl), hbr⟩

/-- What PinsFew says of one square. -/
theorem few_at (c : Nat → Int) (k : Int) (s : Nat) (hc : BdOk c) (hok : stdOk c = true) (hk : k = 0 ∨ k = 1) (hs : s < 64) :
    (bit (N.men (N.pins (stdP c) k)) s = true → c (1 + s) ≠ 0 ∧ c (1 + s) / 8 = k ∧ c (1 + s) % 8 ≠ 6) ∧
    (c (1 + s) ≠ 0 → c (1 + s) / 8 = k → bit (N.men (N.pins (stdP c) k)) s = false → N.line (stdP c) s = N.ones) ∧
    (c (1 + s) = 0 → N.line (stdP c) s = 0#64) := by
  have hq := stdP_bd c hc
  have hsq := stdP_at c s hs
  obtain ⟨x0, x1⟩ := hc s hs
  have hthere : K.there (s : Int) = true := by unfold K.there; simp; omega
  have other : ∀ k' : Int, (N.mine (stdP c) k' s = false) → N.at' (N.pins (stdP c) k') s = none := fun k' hm => by
    rw [N.at_none_iff]
    intro x hx e
    rw [N.pins_mine (stdP c) k' hq x s hx e] at hm; cases hm
  refine ⟨fun hb => ?_, fun hn hco hb => ?_, fun hz => ?_⟩
  · obtain ⟨x, hx, e⟩ := (N.bit_men' (stdP c) k s).1 hb
    have hm := N.pins_mine (stdP c) k hq x s hx e
    unfold N.mine at hm
    rw [hsq, Bool.and_eq_true, bne_iff_ne, beq_iff_eq] at hm
    refine ⟨fun e0 => hm.1 (by rw [e0]; rfl), hm.2, fun h6 => ?_⟩
    obtain ⟨_, kk, hkk, hf, d, hd, m, s', hm', hs', hp, e1, _⟩ := N.pins_spec (stdP c) k hq x hx
    have hms : m = s := by omega
    subst hms
    have hr := (hp.ray hkk hd).1
    have hne : kk ≠ m := fun e => by subst e; rw [N.inRay_self kk d hkk hd] at hr; cases hr
    have hi1 : isK c k m = true := by
      unfold isK
      have := hm.2
      unfold D.color at this
      rw [beq_iff_eq]; omega
    have hi2 : isK c k kk = true := by
      have h1 : D.is (stdP c) kk k 6 = true := by
        rcases dfirst_spec (fun s => D.is (stdP c) s k 6) 64 0 with ⟨h, _⟩ | ⟨j, _, hj, h, hpj, _⟩
        · unfold D.find at hf; omega
        · unfold D.find at hf; have : j = kk := by omega
          subst this; exact hpj
      unfold isK
      obtain ⟨y0, y1⟩ := hc kk hkk
      rw [isK_is _ k y0 y1 hk, ← stdP_at c kk hkk]
      exact h1
    have h2 : 2 ≤ kcnt c k 64 := by
      rcases Nat.lt_or_ge kk m with h | h
      · exact kcnt_two c k kk m hi2 hi1 h 64 hs
      · exact kcnt_two c k m kk hi1 hi2 (by omega) 64 hkk
    unfold stdOk at hok
    simp only [Bool.and_eq_true, decide_eq_true_eq] at hok
    rcases hk with rfl | rfl
    · omega
    · omega
  · have h1 : N.at' (N.pins (stdP c) k) s = none := by
      rw [N.at_none_iff]
      intro x hx e
      rw [(N.bit_men' (stdP c) k s).2 ⟨x, hx, e⟩] at hb; cases hb
    have h2 : N.at' (N.pins (stdP c) (1 - k)) s = none := other _ (by
      unfold N.mine D.color
      rw [hsq, hco]
      have : (k == 1 - k) = false := by rw [beq_eq_false_iff_ne]; omega
      rw [this, Bool.and_false])
    have hon : N.on (stdP c) s = none := by
      unfold N.on
      rcases hk with rfl | rfl
      · rw [h1, show (1 : Int) = 1 - 0 from rfl, h2]; rfl
      · rw [h1, show (0 : Int) = 1 - 1 from rfl, h2]; rfl
    unfold N.line
    have hl : lawB c = true := by unfold stdOk at hok; rw [Bool.and_eq_true] at hok; exact hok.1
    rw [hon, hthere, Int.toNat_natCast, bit_all _ s hs, hsq, ← isB_kind _ x0 x1, lawful_k c hc hl s hs]
    simp [hn]
  · have hm0 : ∀ k', N.mine (stdP c) k' s = false := fun k' => by
      unfold N.mine; rw [hsq, hz]; rfl
    have hon : N.on (stdP c) s = none := by
      unfold N.on
      rw [other 0 (hm0 0), other 1 (hm0 1)]; rfl
    unfold N.line
    rw [hon, hthere, Int.toNat_natCast, bit_all _ s hs, hsq, hz]
    rfl
theorem few_king (c : Nat → Int) (k : Int) (h : D.find c k 6 < 0) (hc : BdOk c) : N.men (N.pins c k) = 0#64 ∧ N.blocks c k = 0#64 := by
  constructor
  · unfold N.pins; rw [find_eq c k hc, if_neg (by omega)]; rfl
  · unfold N.blocks; rw [find_eq c k hc, if_neg (by omega)]
theorem few_two (c : Nat → Int) : N.men (N.pins c 2) = 0#64 := by
  unfold N.pins; rw [if_neg (fun h => absurd h.1 (by decide))]; rfl

end Go.Proofs.YtnkkhdcjbjiimaaDoor
