/- The program's package pins: on. -/
import Derived.Test.YtnkkhdcjbjiimaaDoorPinsOf
namespace Go.Proofs.YtnkkhdcjbjiimaaDoor
open Go.RowKit Go.Sort

namespace N
def at' (l : List (Int × Int × BitVec 64)) (s : Int) : Option (Int × Int × BitVec 64) := l.find? fun x => x.1 == s
def no : Int × Int × BitVec 64 := (0, 0, 0#64)
def onV (o : Option (Int × Int × BitVec 64)) : Value := .tuple #[.agg (pinV (o.getD no)).toArray, .bool o.isSome]
def on (c : Nat → Int) (s : Int) : Option (Int × Int × BitVec 64) := (at' (pins c 0) s).or (at' (pins c 1) s)
/-- Nothing among the first n. -/
def noneTo (l : List (Int × Int × BitVec 64)) (s : Int) (n : Nat) : Prop := ∀ x ∈ l.take n, (x.1 == s) = false
theorem noneTo_succ {l : List (Int × Int × BitVec 64)} {s : Int} {n : Nat} {x : Int × Int × BitVec 64} (h : noneTo l s n) (hx : l[n]? = some x) (hn : (x.1 == s) = false) : noneTo l s (n + 1) := fun y hy => by
  rw [List.take_add_one, hx] at hy
  rcases List.mem_append.1 hy with h1 | h1
  · exact h y h1
  · simp at h1; rw [h1]; exact hn
theorem at_none {l : List (Int × Int × BitVec 64)} {s : Int} (h : noneTo l s l.length) : at' l s = none := by
  unfold at'
  rw [List.find?_eq_none]
  intro x hx
  have := h x (by rw [List.take_length]; exact hx)
  simp at this ⊢; exact this
theorem at_some {l : List (Int × Int × BitVec 64)} {s : Int} {n : Nat} {x : Int × Int × BitVec 64} (h : noneTo l s n) (hx : l[n]? = some x) (hs : (x.1 == s) = true) : at' l s = some x := by
  obtain ⟨hn, e⟩ := List.getElem?_eq_some_iff.1 hx
  have hl : l = l.take n ++ x :: l.drop (n + 1) := by
    rw [← e, ← List.drop_eq_getElem_cons hn, List.take_append_drop]
  unfold at'
  rw [hl, List.find?_append, List.find?_eq_none.2 (fun y hy => by have := h y hy; simp at this ⊢; exact this), Option.none_or, List.find?_cons, hs]
end N

theorem results_cell_tmp {P : Program} {fn : Func} {p q : Tmp} {ty : TypeId} (h : fn.results = #[.cell p ty, .tmp q]) (tmps : Array Value) (w : World) (g : Nat) (t : TypeId) (cs : Array Value) (d : TypeDesc) (v : Value)
    (hp : tmps.getD p undef = .pointer (some ⟨g, 0, none⟩)) (hv : tmps.getD q undef = v) (hg : RowAt w g t cs)
    (hu : P.underlying ty = some d) (hd : (match d with | .struct _ | .array _ _ => true | _ => false) = true) (hi : (P.info? ty).map (·.size) = some cs.size) :
    (results fn tmps).run P w = .ok (.tuple #[.agg cs, v]) w := by
  have hp' : tmps[p]?.getD undef = .pointer (some ⟨g, 0, none⟩) := by simpa using hp
  have hv' : tmps[q]?.getD undef = v := by simpa using hv
  simp [results, h, hp', hv', asAddr, run_loadVar_row w g t ty cs (0, 0) d hg.heap hu hd hi]
theorem N.pinV_one (x : Int × Int × BitVec 64) : ((N.pinV x).toArray).all (·.oneCell') = true := by simp [N.pinV, Value.oneCell']

/-- None of the first colors has such a pin. -/
def N.done (c : Nat → Int) (s : Int) (k : Nat) : Prop := ∀ j : Nat, j < k → N.at' (N.pins c (j : Int)) s = none
theorem N.on_some {c : Nat → Int} {s : Int} {k : Nat} {x : Int × Int × BitVec 64} (h : N.done c s k) (hk : k < 2) (hx : N.at' (N.pins c (k : Int)) s = some x) : N.on c s = some x := by
  unfold N.on
  rcases (show k = 0 ∨ k = 1 by omega) with rfl | rfl
  · have : N.at' (N.pins c 0) s = some x := hx
    rw [this]; rfl
  · have h0 : N.at' (N.pins c 0) s = none := h 0 (by omega)
    have h1 : N.at' (N.pins c 1) s = some x := hx
    rw [h0, h1]; rfl
theorem N.on_none {c : Nat → Int} {s : Int} (h : N.done c s 2) : N.on c s = none := by
  unfold N.on
  have h0 : N.at' (N.pins c 0) s = none := h 0 (by omega)
  have h1 : N.at' (N.pins c 1) s = none := h 1 (by omega)
  rw [h0, h1]; rfl

set_option maxRecDepth 100000 in
set_option maxHeartbeats 4000000 in
theorem pon_any (c : Nat → Int) (s : Int) (w : World) (hc : BdOk c) (hT : Tb w) :
    Calls Tryd.prog 50 #[.agg (posC c), .int .i64 s] w fun e w' => e = .returned (N.onV (N.on c s)) ∧ Below w.heap.size w w' := by
  have Hc := Lib.hid hc
  have HT := Lib.hid (fun W (hb : Below w.heap.size w W) => tb_below hT hb)
  clear hT hc
  go_enter Tryd.func50, Tryd.ntmps50
  go_wp2
  have hp := Lib.hid ((PosAt.new w c).alloc (.cells #[.int .i64 0, .int .i64 0, .int .u64 0] 84))
  have hR : RowAt ((w.alloc (.cells (posC c) 31)).alloc (.cells #[.int .i64 0, .int .i64 0, .int .u64 0] 84)) (w.heap.size + 1) 84 #[.int .i64 0, .int .i64 0, .int .u64 0] := by
    have := RowAt.new (w.alloc (.cells (posC c) 31)) #[.int .i64 0, .int .i64 0, .int .u64 0] 84
    simpa using this
  have HR := Lib.hid hR
  have Hb0 := Lib.hid (((Below.refl w.heap.size w).alloc (Nat.le_refl _) (.cells (posC c) 31)).alloc (by simp) (.cells #[.int .i64 0, .int .i64 0, .int .u64 0] 84))
  clear hR
  go_loopw [6] (fun i wr => ∃ k : Nat, k ≤ 2 ∧ i = .int .u8 (k : Int) ∧ N.done c s k ∧ PosAt wr w.heap.size c ∧ RowAt wr (w.heap.size + 1) 84 #[.int .i64 0, .int .i64 0, .int .u64 0] ∧ Below w.heap.size w wr) (fun i _ => 2 - (intOf i).toNat)
  case atStart => exact ⟨0, by omega, rfl, fun j hj => by omega, hp.out, HR.out, Hb0.out⟩
  case round =>
    obtain ⟨k, hk, rfl, hdone, hp, hR, hbr⟩ := hrel
    have Hdone := Lib.hid hdone
    clear hdone
    obtain ⟨wo, rfl⟩ : ∃ wo : World, wo = wr := ⟨_, rfl⟩
    by_cases hlt : k < 2
    · obtain ⟨l, hle⟩ : ∃ l, N.pins c (k : Int) = l := ⟨_, rfl⟩
      have hl8 := N.pins_len c (k : Int)
      rw [hle] at hl8
      have Hle := Lib.hid hle
      clear hle
      have hzw := hbr.size
      go_wp2_with (first
        | ((with_reducible refine wp_load_box rfl _ rfl ?_); refine ⟨_, _, rfl, (by assumption), ?_⟩)
        | fail)
      refine (pins_val c (k : Int) l _ Hc.out (HT.out _ hbr) Hle.out).mono ?_
      rintro e w1 ⟨v, rfl, hown, hb⟩
      have hb1 := below_next hbr hb
      replace hp := hp.below hb
      replace hR := hR.below hb
      clear hb hbr
      by_cases hl : 0 < l.length
      · obtain ⟨b, cap, rfl, hbb, hbs, hnc, hcm, hcells⟩ := owns_open3 hown hl
        have Hcells := Lib.hid hcells
        clear hcells hown
        unfold maxLen at hcm
        have HP := Lib.hid hp
        have HR1 := Lib.hid hR
        have HB1 := Lib.hid hb1
        have hg1 := hR.lt
        have hz1 := hb1.size
        clear hp hR hb1
        go_wp2
        go_loopw [17] (fun i wy => ∃ n : Nat, n ≤ l.length ∧ i = .int .i64 (n : Int) ∧ N.noneTo l s n ∧ Below w1.heap.size w1 wy) (fun i _ => l.length - (intOf i).toNat)
        case atStart => exact ⟨0, by omega, rfl, fun x hx => by simp at hx, Below.refl _ _⟩
        case round =>
          obtain ⟨n, hn, rfl, hno, hbn⟩ := hrel
          have Hno := Lib.hid hno
          clear hno
          by_cases hltn : n < l.length
          · obtain ⟨x, hx⟩ : ∃ x, l[n]? = some x := ⟨_, List.getElem?_eq_getElem hltn⟩
            have hrng := Lib.hid (pin_range (b := b) (fun j u hu => ((hbn.cell (p := ⟨b, j, none⟩) hbs).trans (Hcells.out j u hu))) n x hx)
            have Hx := Lib.hid hx
            clear hx
            have hzn := hbn.size
            cases hs : (x.1 == s)
            · go_wp2_with (first
                | ((with_reducible refine wp_load_elem rfl _ _ rfl Tryd.underlying84 rfl ?_); refine ⟨_, _, _, rfl, hrng.out, Tryd.size_pin, ?_⟩))
              exact ⟨⟨n + 1, by omega, by go_num, N.noneTo_succ Hno.out Hx.out hs, hbn.alloc hbn.size _⟩, by simp [intOf]; omega⟩
            · have Hon := Lib.hid (N.on_some Hdone.out hlt (by rw [Hle.out]; exact N.at_some Hno.out Hx.out hs))
              have hR2 := (HR1.out.below hbn)
              go_wp2_with (first
                | ((with_reducible refine wp_load_elem rfl _ _ rfl Tryd.underlying84 rfl ?_); refine ⟨_, _, _, rfl, hrng.out, Tryd.size_pin, ?_⟩)
                | ((with_reducible refine wp_store_row' rfl _ _ _ rfl ?_); refine ⟨w.heap.size + 1, 84, (N.pinV x).toArray, rfl, rfl, ⟨_, (hR2.alloc _).heap, rfl⟩, Tryd.size_pin, N.pinV_one x, ?_⟩; intro V hV hRV))
              refine bodyPost_ret (v := N.onV (some x)) (results_cell_tmp Tryd.results50 _ _ (w.heap.size + 1) 84 _ _ _ rfl rfl hRV Tryd.underlying84 rfl Tryd.size_pin) rfl ⟨by rw [Hon.out], hV.below (((HB1.out.trans (hbn.mono hz1))).alloc (by omega) _) (by omega)⟩
          · obtain rfl : n = l.length := by omega
            go_wp2
            refine ⟨⟨k + 1, by omega, by go_num, fun j hj => ?_, HP.out.below hbn, HR1.out.below hbn, HB1.out.trans (hbn.mono hz1)⟩, by simp [intOf]; omega⟩
            by_cases e : j = k
            · rw [e, Hle.out]; exact N.at_none Hno.out
            · exact Hdone.out j (by omega)
      · have hz : l = [] := List.eq_nil_of_length_eq_zero (by omega)
        subst hz
        have HP := Lib.hid hp
        have HR1 := Lib.hid hR
        have HB1 := Lib.hid hb1
        clear hp hR hb1
        rcases hown.2 with ⟨rfl, _⟩ | ⟨g, cap, cur, rfl, _⟩
        all_goals
          clear hown
          go_wp2
          go_loopw [17] (fun i wy => i = .int .i64 0 ∧ wy = w1) (fun _ _ => 0)
          case atStart => exact ⟨rfl, rfl⟩
          case round =>
            obtain ⟨rfl, rfl⟩ := hrel
            go_wp2
            refine ⟨⟨k + 1, by omega, by go_num, fun j hj => ?_, HP.out, HR1.out, HB1.out⟩, by simp [intOf]; omega⟩
            by_cases e : j = k
            · rw [e, Hle.out]; rfl
            · exact Hdone.out j (by omega)
    · obtain rfl : k = 2 := by omega
      have Hon := Lib.hid (N.on_none Hdone.out)
      go_wp2_with (first
        | ((with_reducible refine wp_store_row' rfl _ _ _ rfl ?_); refine ⟨w.heap.size + 1, 84, (N.pinV N.no).toArray, rfl, rfl, ⟨_, hR.heap, rfl⟩, Tryd.size_pin, N.pinV_one _, ?_⟩; intro V hV hRV))
      refine bodyPost_ret (v := N.onV none) (results_cell_tmp Tryd.results50 _ _ (w.heap.size + 1) 84 _ _ _ rfl rfl hRV Tryd.underlying84 rfl Tryd.size_pin) rfl ⟨by rw [Hon.out], hV.below hbr (by omega)⟩

end Go.Proofs.YtnkkhdcjbjiimaaDoor
