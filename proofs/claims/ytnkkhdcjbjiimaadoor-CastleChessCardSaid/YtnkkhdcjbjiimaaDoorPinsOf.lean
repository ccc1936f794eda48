/- The program's package pins: Of. -/
import Derived.Test.YtnkkhdcjbjiimaaDoorPins
namespace Go.Proofs.YtnkkhdcjbjiimaaDoor
open Go.RowKit Go.Sort

namespace N
theorem res_bd (c : Nat → Int) (color k : Int) (d : Nat) (x : Int × Int × BitVec 64) (h : res c color k d = some x) : ∃ m s : Nat, m < 64 ∧ s < 64 ∧ x.1 = (m : Int) ∧ x.2.1 = (s : Int) := by
  unfold res at h
  split at h
  · rename_i hp
    unfold pinB at hp
    simp only [Bool.and_eq_true] at hp
    obtain ⟨h1, h2, _⟩ := hp
    have n1 : fst c k d ≠ 0#64 := fun e => by
      rw [e] at h1
      have : bAnd 0#64 (S.of c color 0) = 0#64 := by unfold bAnd; simp
      rw [this] at h1; cases h1
    have n2 : byS c k d ≠ 0#64 := fun e => by rw [e] at h2; cases h2
    obtain ⟨m, e1, m64, _⟩ := first_spec _ n1
    obtain ⟨s, e2, s64, _⟩ := first_spec _ n2
    cases h
    exact ⟨m, s, m64, s64, e1, e2⟩
  · cases h
theorem pins_bd (c : Nat → Int) (color : Int) (x : Int × Int × BitVec 64) (h : x ∈ pins c color) : ∃ m s : Nat, m < 64 ∧ s < 64 ∧ x.1 = (m : Int) ∧ x.2.1 = (s : Int) := by
  unfold pins at h
  split at h
  · unfold upTo at h
    rw [List.mem_filterMap] at h
    obtain ⟨d, _, hd⟩ := h
    exact res_bd _ _ _ d x hd
  · cases h
theorem pins_len (c : Nat → Int) (color : Int) : (pins c color).length ≤ 8 := by
  unfold pins
  split
  · exact upTo_len _ _ _ _
  · simp
/-- The men of some pins, as a set. -/
def men (l : List (Int × Int × BitVec 64)) : BitVec 64 := l.foldl (fun b x => bOr b (B.one x.1)) 0#64
theorem men_take (l : List (Int × Int × BitVec 64)) (k : Nat) (x : Int × Int × BitVec 64) (h : l[k]? = some x) : men (l.take (k + 1)) = bOr (men (l.take k)) (B.one x.1) := by
  unfold men
  rw [List.take_add_one, h, List.foldl_append]
  rfl
end N

/-- A row of structs of three cells that is owned and not empty. -/
theorem owns_open3 {w : World} {base : Nat} {e : TypeId} {v : Value} {n : Nat} {xs : List Value} (h : w.ownsRow base e 3 v n xs) (hn : 0 < n) :
    ∃ b cap, v = .slice (some ⟨b, 0, none⟩) n cap ∧ base ≤ b ∧ b < w.heap.size ∧ n ≤ cap ∧ cap ≤ maxLen ∧ ∀ j u, xs[j]? = some u → w.cell? ⟨b, j, none⟩ = some u := by
  rcases h.2 with ⟨_, rfl⟩ | ⟨g, cap, cur, rfl, hb, hg, hnc, hcm, hcs, htake⟩
  · omega
  · refine ⟨g, cap, rfl, hb, (Array.getElem?_eq_some_iff.1 hg).1, hnc, hcm, ?_⟩
    intro j u hu
    rw [← htake, List.getElem?_take] at hu
    split at hu
    · simp only [World.cell?, hg]
      simpa using hu
    · cases hu
theorem range3 {w : World} {b off : Nat} {x y z : Value} (h0 : w.cell? ⟨b, off, none⟩ = some x) (h1 : w.cell? ⟨b, off + 1, none⟩ = some y) (h2 : w.cell? ⟨b, off + 2, none⟩ = some z) : w.rangeAt b off [x, y, z] := by
  intro j v hv
  match j, hv with
  | 0, hv => simp at hv; subst hv; exact h0
  | 1, hv => simp at hv; subst hv; exact h1
  | 2, hv => simp at hv; subst hv; exact h2
theorem pin_range {w : World} {b : Nat} {l : List (Int × Int × BitVec 64)} (h : ∀ j u, (N.cells l)[j]? = some u → w.cell? ⟨b, j, none⟩ = some u) (i : Nat) (x : Int × Int × BitVec 64) (hx : l[i]? = some x) : w.rangeAt b (i * 3) [.int .i64 x.1, .int .i64 x.2.1, .int .u64 (U x.2.2)] :=
  range3 (by have := h (i * 3 + 0) _ (N.cells_at l i x hx 0 _ rfl); simpa using this) (h (i * 3 + 1) _ (N.cells_at l i x hx 1 _ rfl)) (h (i * 3 + 2) _ (N.cells_at l i x hx 2 _ rfl))
theorem Tryd.size_pin : (Tryd.prog.info? 84).map (·.size) = some 3 := by kernel_rfl

theorem pins_val (c : Nat → Int) (color : Int) (l : List (Int × Int × BitVec 64)) (w : World) (hc : BdOk c) (hT : Tb w) (h : N.pins c color = l) :
    Calls Tryd.prog 47 #[.agg (posC c), .int .u8 color] w (N.End 84 l w) := by
  rw [← h]; exact pins_any c color w hc hT

set_option maxRecDepth 100000 in
set_option maxHeartbeats 4000000 in
theorem pof_any (c : Nat → Int) (color : Int) (w : World) (hc : BdOk c) (hT : Tb w) :
    Calls Tryd.prog 26 #[.agg (posC c), .int .u8 color] w fun e w' => e = .returned (.int .u64 (U (N.men (N.pins c color)))) ∧ Below w.heap.size w w' := by
  have Hc := Lib.hid hc
  have hb0 : Below w.heap.size w (w.alloc (.cells (posC c) 31)) := (Below.refl _ _).alloc (Nat.le_refl _) _
  have HT := Lib.hid (tb_below hT hb0)
  have hp := PosAt.new w c
  have hbd := Lib.hid (N.pins_bd c color)
  have hl8 := N.pins_len c color
  obtain ⟨l, hle⟩ : ∃ l, N.pins c color = l := ⟨_, rfl⟩
  rw [hle] at hbd hl8
  have Hle := Lib.hid hle
  clear hT hc hle
  go_enter Tryd.func26, Tryd.ntmps26
  go_wp2_with (first
    | ((with_reducible refine wp_load_box rfl _ rfl ?_); refine ⟨_, _, rfl, (by assumption), ?_⟩)
    | fail)
  refine (pins_val c color l _ Hc.out HT.out Hle.out).mono ?_
  rintro e w1 ⟨v, rfl, hown, hb⟩
  have hb1 := below_next hb0 hb
  clear hb hb0 hp
  by_cases hl : 0 < l.length
  · obtain ⟨b, cap, rfl, hbb, hbs, hnc, hcm, hcells⟩ := owns_open3 hown hl
    have Hcells := Lib.hid hcells
    clear hcells hown
    unfold maxLen at hcm
    go_wp2
    go_loopw [5, 12] (fun v i wr => ∃ k : Nat, k ≤ l.length ∧ i = .int .i64 (k : Int) ∧ v = .int .u64 (U (N.men (l.take k))) ∧ Below w1.heap.size w1 wr) (fun _ i _ => l.length - (intOf i).toNat)
    case atStart => exact ⟨0, by omega, rfl, by simp [N.men]; rfl, Below.refl _ _⟩
    case round =>
      obtain ⟨k, hk, rfl, rfl, hbr⟩ := hrel
      by_cases hlt : k < l.length
      · obtain ⟨x, hx⟩ : ∃ x, l[k]? = some x := ⟨_, List.getElem?_eq_getElem hlt⟩
        obtain ⟨m, s, hm, hs, hxm, hxs⟩ := hbd.out x (List.mem_of_getElem? hx)
        have hrng := Lib.hid (pin_range (w := wr) (b := b) (fun j u hu => ((hbr.cell (p := ⟨b, j, none⟩) hbs).trans (Hcells.out j u hu))) k x hx)
        have Hm := Lib.hid (N.men_take l k x hx)
        rw [hxm] at Hm hrng
        have hone : IntKind.u64.wrap (2 ^ m) = U (B.one m) := B.one_val m (by omega) (by omega)
        have Hx := Lib.hid (And.intro hx (And.intro hxm hxs))
        clear hx hxm hxs
        go_wp2_with (first
          | ((with_reducible refine wp_load_elem rfl _ _ rfl Tryd.underlying84 rfl ?_); refine ⟨_, _, _, rfl, hrng.out, Tryd.size_pin, ?_⟩))
        exact ⟨⟨k + 1, by omega, by go_num, by rw [Hm.out], hbr.alloc hbr.size _⟩, by simp [intOf]; omega⟩
      · obtain rfl : k = l.length := by omega
        go_wp2
        go_ret
        exact ⟨by rw [List.take_length, Hle.out]; rfl, hb1.trans (hbr.mono hb1.size)⟩
  · have hz : l = [] := List.eq_nil_of_length_eq_zero (by omega)
    subst hz
    rcases hown.2 with ⟨rfl, _⟩ | ⟨g, cap, cur, rfl, _⟩
    all_goals
      go_wp2
      go_loopw [5, 12] (fun v i wr => i = .int .i64 0 ∧ v = .int .u64 0 ∧ wr = w1) (fun _ _ _ => 0)
      case atStart => exact ⟨rfl, rfl, rfl⟩
      case round =>
        obtain ⟨rfl, rfl, rfl⟩ := hrel
        go_wp2
        go_ret
        exact ⟨by rw [Hle.out]; rfl, hb1⟩

end Go.Proofs.YtnkkhdcjbjiimaaDoor
