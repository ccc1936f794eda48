/- The laws of layer 18: PinsOf. -/
import Derived.Test.YtnkkhdcjbjiimaaDoorRef18b
import Derived.Test.YtnkkhdcjbjiimaaDoorLaw18
namespace Go.Proofs.YtnkkhdcjbjiimaaDoor
open Go.RowKit Go.Sort

namespace N
theorem bit_men (l : List (Int × Int × BitVec 64)) (j : Nat) (h : ∀ x ∈ l, ∃ m : Nat, m < 64 ∧ x.1 = (m : Int)) : bit (men l) j = l.any fun x => x.1 == (j : Int) := by
  have key : ∀ (l : List (Int × Int × BitVec 64)) (b : BitVec 64), (∀ x ∈ l, ∃ m : Nat, m < 64 ∧ x.1 = (m : Int)) → bit (l.foldl (fun b x => bOr b (B.one x.1)) b) j = (bit b j || l.any fun x => x.1 == (j : Int)) := by
    intro l
    induction l with
    | nil => intro b _; simp
    | cons a l ih =>
      intro b hl
      obtain ⟨m, hm, e⟩ := hl a (List.mem_cons_self ..)
      rw [List.foldl_cons, ih _ (fun x hx => hl x (List.mem_cons_of_mem _ hx)), bit_or, e, bit_one m j hm, List.any_cons, Bool.or_assoc, e]
      congr 2
      rw [Bool.eq_iff_iff]; simp; omega
  have := key l 0#64 h
  rw [bit_zero, Bool.false_or] at this
  exact this
theorem dir_all (d : Nat) (hd : d < 8) : ∃ t, t < 9 ∧ t ≠ 4 ∧ dirAt t = d := by
  rcases (show d = 0 ∨ d = 1 ∨ d = 2 ∨ d = 3 ∨ d = 4 ∨ d = 5 ∨ d = 6 ∨ d = 7 by omega) with rfl | rfl | rfl | rfl | rfl | rfl | rfl | rfl
  · exact ⟨7, by decide, by decide, rfl⟩
  · exact ⟨8, by decide, by decide, rfl⟩
  · exact ⟨5, by decide, by decide, rfl⟩
  · exact ⟨2, by decide, by decide, rfl⟩
  · exact ⟨1, by decide, by decide, rfl⟩
  · exact ⟨0, by decide, by decide, rfl⟩
  · exact ⟨3, by decide, by decide, rfl⟩
  · exact ⟨6, by decide, by decide, rfl⟩
theorem dirAt_lt (t : Nat) : dirAt t < 8 := by unfold dirAt; split <;> decide
theorem mem_both (c : Nat → Int) (color : Int) (hc : BdOk c) (x : Int × Int × BitVec 64) : x ∈ pins c color ↔ x ∈ dall c color := by
  unfold pins dall
  rw [find_eq c color hc]
  rcases D.find_bd c color 6 with hf | ⟨k, hk, hf⟩
  · rw [hf, if_neg (by simp), if_neg (by simp)]
  · rw [hf]
    by_cases h1 : color ≤ 1
    · rw [if_pos ⟨h1, by omega⟩, if_pos ⟨h1, by omega⟩, Int.toNat_natCast]
      unfold upTo allTo
      rw [List.mem_filterMap, List.mem_filterMap]
      constructor
      · rintro ⟨d, hd, h⟩
        have hd8 := List.mem_range.1 hd
        obtain ⟨t, ht, h4, e⟩ := dir_all d hd8
        refine ⟨t, List.mem_range.2 ht, ?_⟩
        unfold stepAt
        rw [if_neg h4, e, ← res_eq c color k d hc hk hd8]
        exact h
      · rintro ⟨t, ht, h⟩
        unfold stepAt at h
        split at h
        · cases h
        · refine ⟨dirAt t, List.mem_range.2 (dirAt_lt t), ?_⟩
          rw [res_eq c color k _ hc hk (dirAt_lt t)]
          exact h
    · rw [if_neg (fun h => h1 h.1), if_neg (fun h => h1 h.1)]
theorem men_eq (c : Nat → Int) (color : Int) (hc : BdOk c) : men (pins c color) = men (dall c color) := by
  have h1 : ∀ x ∈ pins c color, ∃ m : Nat, m < 64 ∧ x.1 = (m : Int) := fun x hx => by
    obtain ⟨m, _, hm, _, e, _⟩ := pins_bd c color x hx
    exact ⟨m, hm, e⟩
  refine bit_ext fun j _ => ?_
  rw [bit_men _ j h1, bit_men _ j fun x hx => h1 x ((mem_both c color hc x).2 hx), Bool.eq_iff_iff, List.any_eq_true, List.any_eq_true]
  constructor
  · rintro ⟨x, hx, h⟩; exact ⟨x, (mem_both c color hc x).1 hx, h⟩
  · rintro ⟨x, hx, h⟩; exact ⟨x, (mem_both c color hc x).2 hx, h⟩
theorem dall_len (c : Nat → Int) (color : Int) : (dall c color).length ≤ 9 := by
  unfold dall
  split
  · exact allTo_len _ _ _ _
  · simp
end N

theorem d18all_val (c : Nat → Int) (color : Int) (l : List (Int × Int × BitVec 64)) (w : World) (hc : BdOk c) (h : N.dall c color = l) :
    Calls Tryd.prog 25 #[.agg (posC c), .int .u8 color] w (N.End 55 l w) := by
  rw [← h]; exact d18all_any c color w hc

set_option maxRecDepth 100000 in
set_option maxHeartbeats 4000000 in
theorem pinsOf_walk (c : Nat → Int) (color : Int) (w : World) (hc : PosOk c) (_h0 : 0 ≤ color) (hT : Tb w) :
    Calls Tryd.prog 8 #[.agg (posC c), .int .u8 color] w fun e w' => e = .returned (.bool true) ∧ Below w.heap.size w w' := by
  have Hc := Lib.hid (pos_bd hc)
  have hb0 : Below w.heap.size w (w.alloc (.cells (posC c) 31)) := (Below.refl _ _).alloc (Nat.le_refl _) _
  have HT := Lib.hid (fun W (hb : Below w.heap.size w W) => tb_below hT hb)
  have hp := PosAt.new w c
  have hbd := Lib.hid (fun x hx => N.pins_bd c color x ((N.mem_both c color Hc.out x).2 hx))
  have hl9 := N.dall_len c color
  have hme := N.men_eq c color Hc.out
  obtain ⟨l, hle⟩ : ∃ l, N.dall c color = l := ⟨_, rfl⟩
  rw [hle] at hbd hl9 hme
  have Hle := Lib.hid hle
  have Hme := Lib.hid hme
  clear hT hc hle hme
  have hqq : (U (N.men l) == U (N.men l)) = true := by simp
  go_enter Tryd.func8, Tryd.ntmps8
  go_wp2_with (first
    | ((with_reducible refine wp_load_box rfl _ rfl ?_); refine ⟨_, _, rfl, (by assumption), ?_⟩)
    | fail)
  refine (d18all_val c color l _ Hc.out Hle.out).mono ?_
  rintro e w1 ⟨v, rfl, hown, hb⟩
  have hb1 := below_next hb0 hb
  have hp1 := Lib.hid (hp.below hb)
  clear hb hb0 hp
  by_cases hl : 0 < l.length
  · obtain ⟨b, cap, rfl, hbb, hbs, hnc, hcm, hcells⟩ := owns_open3 hown hl
    have Hcells := Lib.hid hcells
    clear hcells hown
    unfold maxLen at hcm
    go_wp2
    go_loopw [5, 7] (fun v i wr => ∃ k : Nat, k ≤ l.length ∧ i = .int .i64 (k : Int) ∧ v = .int .u64 (U (N.men (l.take k))) ∧ Below w1.heap.size w1 wr) (fun _ i _ => l.length - (intOf i).toNat)
    case atStart => exact ⟨0, by omega, rfl, by simp [N.men]; rfl, Below.refl _ _⟩
    case round =>
      obtain ⟨k, hk, rfl, rfl, hbr⟩ := hrel
      by_cases hlt : k < l.length
      · obtain ⟨x, hx⟩ : ∃ x, l[k]? = some x := ⟨_, List.getElem?_eq_getElem hlt⟩
        obtain ⟨m, s, hm, hs, hxm, hxs⟩ := hbd.out x (List.mem_of_getElem? hx)
        have hcl : wr.cell? ⟨b, k * 3, none⟩ = some (.int .i64 (m : Int)) := by
          have := (hbr.cell (p := ⟨b, k * 3, none⟩) hbs).trans (Hcells.out (k * 3 + 0) _ (N.cells_at l k x hx 0 _ rfl))
          rw [hxm] at this; exact this
        have Hm := Lib.hid (N.men_take l k x hx)
        rw [hxm] at Hm
        have hone : IntKind.u64.wrap (2 ^ m) = U (B.one m) := B.one_val m (by omega) (by omega)
        clear hx hxm hxs
        go_wp2
        exact ⟨⟨k + 1, by omega, by go_num, by rw [Hm.out], hbr⟩, by simp [intOf]; omega⟩
      · obtain rfl : k = l.length := by omega
        have hbr2 := hb1.trans (hbr.mono hb1.size)
        have hp := hp1.out.below hbr
        rw [List.take_length]
        go_wp2_with (first
          | ((with_reducible refine wp_load_box rfl _ rfl ?_); refine ⟨_, _, rfl, (by assumption), ?_⟩)
          | (go_at_call 26; refine (pof_val c color (U (N.men l)) _ Hc.out (HT.out _ hbr2) (by rw [Hme.out])).mono ?_; rintro e u ⟨rfl, hb⟩; replace hbr2 := below_next hbr2 hb; clear hb)
          | (go_at_call 27; refine (awake18_any _ (HT.out _ hbr2)).mono ?_; rintro e u ⟨rfl, hb⟩; replace hbr2 := below_next hbr2 hb; clear hb))
        go_ret
        exact ⟨rfl, hbr2⟩
  · have hz : l = [] := List.eq_nil_of_length_eq_zero (by omega)
    subst hz
    have hp := hp1.out
    rcases hown.2 with ⟨rfl, _⟩ | ⟨g, cap, cur, rfl, _⟩
    all_goals
      clear hown
      go_wp2
      go_loopw [5, 7] (fun v i wr => i = .int .i64 0 ∧ v = .int .u64 0 ∧ wr = w1) (fun _ _ _ => 0)
      case atStart => exact ⟨rfl, rfl, rfl⟩
      case round =>
        obtain ⟨rfl, rfl, rfl⟩ := hrel
        go_wp2_with (first
          | ((with_reducible refine wp_load_box rfl _ rfl ?_); refine ⟨_, _, rfl, (by assumption), ?_⟩)
          | (go_at_call 26; refine (pof_val c color 0 _ Hc.out (HT.out _ hb1) (by rw [Hme.out]; rfl)).mono ?_; rintro e u ⟨rfl, hb⟩; replace hb1 := below_next hb1 hb; clear hb)
          | (go_at_call 27; refine (awake18_any _ (HT.out _ hb1)).mono ?_; rintro e u ⟨rfl, hb⟩; replace hb1 := below_next hb1 hb; clear hb))
        go_ret
        exact ⟨rfl, hb1⟩

end Go.Proofs.YtnkkhdcjbjiimaaDoor
