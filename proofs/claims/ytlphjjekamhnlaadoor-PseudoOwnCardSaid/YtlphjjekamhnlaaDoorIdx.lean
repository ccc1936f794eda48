/- slices.Index at moves, slices.Contains. -/
import Derived.Test.YtlphjjekamhnlaaDoorOrdK
import Derived.BigQuiet
import Derived.Shelf.SlSortCmp.QuietGrown
namespace Go.Proofs.YtlphjjekamhnlaaDoor
open Go.RowKit Go.Sort

/-- Draws and blocks laid behind, no more. -/
def GrowW (w w' : World) : Prop := ∃ q os, w' = grow (w.drewN q) os
theorem GrowW.refl (w : World) : GrowW w w := ⟨0, #[], by rw [grow_empty]; rfl⟩
theorem GrowW.of_eq {w w' : World} (h : w = w') : GrowW w w' := h ▸ GrowW.refl w
theorem GrowW.trans {a b c : World} (h : GrowW a b) (k : GrowW b c) : GrowW a c := by
  obtain ⟨q, os, rfl⟩ := h
  obtain ⟨q', os', rfl⟩ := k
  exact ⟨q + q', os ++ os', by show grow (grow ((a.drewN q).drewN q') os) os' = _; rw [grow_grow, World.drewN_drewN]⟩
theorem GrowW.alloc (w : World) (o : Obj) : GrowW w (w.alloc o) := ⟨0, #[o], by rw [alloc_eq_grow]; rfl⟩
theorem GrowW.drewN (w : World) (n : Nat) : GrowW w (w.drewN n) := ⟨n, #[], by rw [grow_empty]⟩
theorem GrowW.grown (w : World) (n : Nat) (os : Array Obj) : GrowW w (grow (w.drewN n) os) := ⟨n, os, rfl⟩
theorem GrowW.below {w w' : World} (h : GrowW w w') : Below w.heap.size w w' := by
  obtain ⟨q, os, rfl⟩ := h
  refine ⟨rfl, rfl, rfl, ?_, fun k hk => ?_⟩
  · show w.heap.size ≤ (w.heap ++ os).size
    simp
  · show (w.heap ++ os)[k]? = w.heap[k]?
    rw [Array.getElem?_append_left hk]
namespace M
/-- Not among the first n. -/
def noneTo (l : List Mv) (m : Mv) (n : Nat) : Prop := ∀ j, j < n → l[j]? ≠ some m
theorem noneTo_succ {l : List Mv} {m x : Mv} {n : Nat} (h : noneTo l m n) (hx : l[n]? = some x) (hne : x ≠ m) : noneTo l m (n + 1) := fun j hj => by
  by_cases e : j = n
  · subst e; rw [hx]; intro e; exact hne (Option.some.inj e)
  · exact h j (by omega)
/-- Where a move stands first. -/
def Found (l : List Mv) (m : Mv) (r : Int) : Prop := (∃ i : Nat, r = (i : Int) ∧ l[i]? = some m ∧ noneTo l m i) ∨ (r = -1 ∧ noneTo l m l.length)
end M

set_option maxRecDepth 100000 in
set_option maxHeartbeats 2000000 in
theorem index_any (l : List Mv) (v : Value) (f' g' p' d' : Int) (c' : Bool) (w : World) (hr : M.Reads w v l) (hN : l.length ≤ 100000) :
    Calls Tryd.prog 98 #[v, .agg #[.int .i8 f', .int .i8 g', .int .u8 p', .int .u8 d', .bool c']] w fun e w' => ∃ r, e = .returned (.int .i64 r) ∧ M.Found l (f', g', p', d', c') r ∧ GrowW w w' := by
  obtain ⟨ao, cap, rfl, h1, h2, h3, h4⟩ := hr
  by_cases h0 : 0 < l.length
  · obtain ⟨b, off, rfl, hb, hcell⟩ := h4 h0
    have HA := Lib.hid (fun W (hb' : Below w.heap.size w W) i x (hx : l[i]? = some x) => (show M.At W b (off + i * 5) x from fun j u hu => by
      have hh := hcell (i * 5 + j) u (M.cells_at l i x hx j u hu)
      rw [Nat.add_assoc]
      exact (hb'.cell (p := ⟨b, off + (i * 5 + j), none⟩) hb).trans hh))
    clear hcell h4 h3
    obtain ⟨q, hq⟩ : ∃ q, l.length = q := ⟨_, rfl⟩
    have Hq := Lib.hid hq
    rw [hq] at h0 h1 hN ⊢
    clear hq
    go_enter Tryd.func98, Tryd.ntmps98
    go_wp2
    have HG : GrowW w (w.alloc (.cells #[.int .i8 f', .int .i8 g', .int .u8 p', .int .u8 d', .bool c'] 36)) := GrowW.alloc _ _
    have HV := Lib.hid (RowAt.new w #[.int .i8 f', .int .i8 g', .int .u8 p', .int .u8 d', .bool c'] 36)
    go_loopw [8] (fun vi wr => ∃ n : Nat, n ≤ q ∧ vi = .int .i64 (n : Int) ∧ Hid (M.noneTo l (f', g', p', d', c') n) ∧ GrowW (w.alloc (.cells #[.int .i8 f', .int .i8 g', .int .u8 p', .int .u8 d', .bool c'] 36)) wr) (fun vi _ => q - (intOf vi).toNat)
    case atStart => exact ⟨0, by omega, rfl, Lib.hid (fun j hj => by omega), GrowW.refl _⟩
    case round =>
      obtain ⟨n, hn, rfl, HN, hgr⟩ := hrel
      have hgw := HG.trans hgr
      by_cases hlt : n < q
      · obtain ⟨⟨f, g, p, d, c⟩, hx⟩ : ∃ m, l[n]? = some m := ⟨_, List.getElem?_eq_getElem (by rw [Hq.out]; exact hlt)⟩
        obtain ⟨m0, m1, m2, m3, m4⟩ := (HA.out wr hgw.below n _ hx).five
        have hv := HV.out.below hgr.below
        have k0 := hv.cell 0
        have k1 := hv.cell 1
        have k2 := hv.cell 2
        have k3 := hv.cell 3
        have k4 := hv.cell 4
        simp only [List.getElem?_toArray, List.getElem?_cons_zero, List.getElem?_cons_succ] at k0 k1 k2 k3 k4
        have HX := Lib.hid hx
        clear hx hv
        by_cases h0 : f' = f
        · subst h0
          by_cases h1 : g' = g
          · subst h1
            by_cases h2 : p' = p
            · subst h2
              by_cases h3 : d' = d
              · subst h3
                by_cases h4 : c' = c
                · subst h4
                  go_wp2
                  go_quiet (fail)
                  go_wp2
                  go_ret
                  exact ⟨_, rfl, .inl ⟨n, rfl, HX.out, HN.out⟩, hgw.trans (GrowW.drewN _ _)⟩
                · have e5 : (c' == c) = false := by simpa using h4
                  have Hd := Lib.hid (show (f', g', p', d', c) ≠ (f', g', p', d', c') from fun e => h4 (by injections; first | assumption | exact Eq.symm (by assumption)))
                  clear h4
                  go_wp2
                  go_quiet (fail)
                  go_wp2
                  exact ⟨⟨n + 1, by omega, by go_num, Lib.hid (M.noneTo_succ HN.out HX.out Hd.out), hgr.trans (GrowW.drewN _ _)⟩, by simp [intOf]; omega⟩
              · have e5 : (d' == d) = false := by simpa using h3
                have Hd := Lib.hid (show (f', g', p', d, c) ≠ (f', g', p', d', c') from fun e => h3 (by injections; first | assumption | exact Eq.symm (by assumption)))
                clear h3
                go_wp2
                go_quiet (fail)
                go_wp2
                exact ⟨⟨n + 1, by omega, by go_num, Lib.hid (M.noneTo_succ HN.out HX.out Hd.out), hgr.trans (GrowW.drewN _ _)⟩, by simp [intOf]; omega⟩
            · have e5 : (p' == p) = false := by simpa using h2
              have Hd := Lib.hid (show (f', g', p, d, c) ≠ (f', g', p', d', c') from fun e => h2 (by injections; first | assumption | exact Eq.symm (by assumption)))
              clear h2
              go_wp2
              go_quiet (fail)
              go_wp2
              exact ⟨⟨n + 1, by omega, by go_num, Lib.hid (M.noneTo_succ HN.out HX.out Hd.out), hgr.trans (GrowW.drewN _ _)⟩, by simp [intOf]; omega⟩
          · have e5 : (g' == g) = false := by simpa using h1
            have Hd := Lib.hid (show (f', g, p, d, c) ≠ (f', g', p', d', c') from fun e => h1 (by injections; first | assumption | exact Eq.symm (by assumption)))
            clear h1
            go_wp2
            go_quiet (fail)
            go_wp2
            exact ⟨⟨n + 1, by omega, by go_num, Lib.hid (M.noneTo_succ HN.out HX.out Hd.out), hgr.trans (GrowW.drewN _ _)⟩, by simp [intOf]; omega⟩
        · have e5 : (f' == f) = false := by simpa using h0
          have Hd := Lib.hid (show (f, g, p, d, c) ≠ (f', g', p', d', c') from fun e => h0 (by injections; first | assumption | exact Eq.symm (by assumption)))
          clear h0
          go_wp2
          go_quiet (fail)
          go_wp2
          exact ⟨⟨n + 1, by omega, by go_num, Lib.hid (M.noneTo_succ HN.out HX.out Hd.out), hgr.trans (GrowW.drewN _ _)⟩, by simp [intOf]; omega⟩
      · obtain rfl : n = q := by omega
        go_wp2
        go_ret
        exact ⟨_, rfl, .inr ⟨rfl, by rw [Hq.out]; exact HN.out⟩, hgw⟩
  · have hz : l.length = 0 := by omega
    rw [hz]
    go_enter Tryd.func98, Tryd.ntmps98
    go_wp2
    refine wp_loop_rounds 1 ?_
    rw [rounds_succ]
    go_wp2
    go_ret
    exact ⟨_, rfl, .inr ⟨rfl, fun j hj => by omega⟩, GrowW.alloc _ _⟩

theorem M.Reads.below2 {w w' : World} {v : Value} {l : List Mv} (h : M.Reads w v l) (hb : Below w.heap.size w w') : M.Reads w' v l := h.below hb
theorem found_mem {l : List Mv} {m : Mv} {r : Int} (h : M.Found l m r) : (decide (0 ≤ r)) = decide (m ∈ l) := by
  rcases h with ⟨i, rfl, hi, _⟩ | ⟨rfl, hn⟩
  · rw [decide_eq_true (by omega), decide_eq_true (List.mem_of_getElem? hi)]
  · rw [decide_eq_false (by omega), decide_eq_false]
    intro hm
    obtain ⟨i, hi⟩ := List.mem_iff_getElem?.1 hm
    exact hn i (List.getElem?_eq_some_iff.1 hi).1 hi
set_option maxRecDepth 100000 in
set_option maxHeartbeats 2000000 in
theorem contains_any (l : List Mv) (v : Value) (f' g' p' d' : Int) (c' : Bool) (w : World) (hr : M.Reads w v l) (hN : l.length ≤ 100000) :
    Calls Tryd.prog 60 #[v, .agg #[.int .i8 f', .int .i8 g', .int .u8 p', .int .u8 d', .bool c']] w fun e w' => e = .returned (.bool (decide ((f', g', p', d', c') ∈ l))) ∧ Below w.heap.size w w' := by
  have hb0 : Below w.heap.size w (w.alloc (.cells #[.int .i8 f', .int .i8 g', .int .u8 p', .int .u8 d', .bool c'] 36)) := (Below.refl _ _).alloc (Nat.le_refl _) _
  have HR := Lib.hid (hr.below hb0)
  have HB := Lib.hid hb0
  have HN := Lib.hid hN
  clear hr hb0 hN
  go_enter Tryd.func60, Tryd.ntmps60
  go_wp2_with (go_at_call 98; refine (index_any l v f' g' p' d' c' _ HR.out HN.out).mono ?_; rintro e w2 ⟨r, rfl, hf, hg⟩; have HF := Lib.hid (found_mem hf); have HG := Lib.hid hg.below; clear hf hg)
  go_ret
  exact ⟨ret_bool HF.out, below_next HB.out HG.out⟩
end Go.Proofs.YtlphjjekamhnlaaDoor
