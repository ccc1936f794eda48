/- The program's package valid: All. -/
import Derived.Test.YtlphjjekamhnlaaDoorVpQ
import Derived.Test.YtlphjjekamhnlaaDoorValT
import Derived.Test.YtlphjjekamhnlaaDoorOwnL
import Derived.Test.YtlphjjekamhnlaaDoorList
namespace Go.Proofs.YtlphjjekamhnlaaDoor
open Go.RowKit Go.Sort
attribute [local go_sem] Oper.semAt_some

set_option maxRecDepth 100000 in
set_option maxHeartbeats 40000000 in
theorem asked_at {c : Nat → Int} {f : FuncId} {b : Bool} {w : World} (h : Asked c f b w) (W : World) (hb : Below w.heap.size w W) : Calls Tryd.prog f #[.agg (posC c)] W fun e w' => e = .returned (.bool b) ∧ Below W.heap.size W w' := h W hb
/-- A row of the call's own grows: the position's box stands. -/
theorem row_put {w w2 w3 : World} {o : Obj} {v v' : Value} {n m : Nat} {xs ys : List Value} {c : Nat → Int} (h : w2.ownsRow (w.heap.size + 1) 42 1 v n xs ∧ PosAt w2 w.heap.size c ∧ Below w.heap.size w w2) (hg : (w2.alloc o).grownBy w3 v.ownBlock)
    (ho : w3.ownsRow (w.heap.size + 1) 42 1 v' m ys) : w3.ownsRow (w.heap.size + 1) 42 1 v' m ys ∧ PosAt w3 w.heap.size c ∧ Below w.heap.size w w3 := by
  obtain ⟨h1, h2, h3⟩ := h
  have hne : ∀ k, v.ownBlock = some k → k ≠ w.heap.size := fun k hk => by
    rcases h1.2 with ⟨e, _⟩ | ⟨g, cap, cur, e, hb, _⟩
    · rw [e] at hk; cases hk
    · rw [e] at hk
      have hk : g = k := Option.some.inj hk
      omega
  exact ⟨ho, (h2.alloc o).grown hg hne, (h3.alloc h3.size o).grown hg (by simp; have := h3.size; omega) (fun k hk => by
    rcases h1.2 with ⟨e, _⟩ | ⟨g, cap, cur, e, hb, _⟩
    · rw [e] at hk; cases hk
    · rw [e] at hk
      have hk : g = k := Option.some.inj hk
      omega)⟩
theorem row_first {w : World} {base : Nat} {e : TypeId} {g cap n : Nat} {xs : List Value} (h : w.ownsRow base e 1 (.slice (some ⟨g, 0, none⟩) (n + 1) cap) (n + 1) xs) : ∃ b, (Value.slice (some ⟨g, 0, none⟩) (n + 1) cap) = .slice (some ⟨b, 0, none⟩) (n + 1) cap ∧ base ≤ b ∧ b < w.heap.size ∧ ∀ j u, xs[j]? = some u → w.cell? ⟨b, j, none⟩ = some u := by
  obtain ⟨ao, cap', e1, _, _, h2⟩ := row_open1 h
  cases e1
  obtain ⟨b, e3, r⟩ := h2 (by omega)
  cases e3
  exact ⟨_, rfl, r⟩
set_option maxRecDepth 100000 in
set_option maxHeartbeats 16000000 in
theorem vall_plain (c : Nat → Int) (w : World) (hc : PosOk c) (hT : Tb w) (hpl : Y.plain c = true) :
    Calls Tryd.prog 17 #[.agg (posC c)] w (Y.End (Y.all c) w) := by
  have ht : c 78 = 0 ∨ c 78 = 1 := Y.t01 hc hpl
  obtain ⟨hv9, _, _, h64⟩ := Y.head_bd hpl
  have h7 : ∀ t k, t < 2 → k < 2 → c (79 + 2 * t + k) ≤ 7 := fun t k ht hk => (Y.side_rook hpl t k ht hk).2
  have A0 : Hid (Asked c 42 (Y.asks c 0) w) := Lib.hid (fun W _ => vplain_any c W hc)
  have A1 : Hid (Asked c 63 (Y.asks c 1) w) := Lib.hid (fun W _ => vclocks_any c W)
  have A2 : Hid (Asked c 64 (Y.asks c 2) w) := Lib.hid (fun W _ => vkings_any c W hc ht)
  have A3 : Hid (Asked c 65 (Y.asks c 3) w) := Lib.hid (fun W _ => vpawns_any c W hc hv9)
  have A4 : Hid (Asked c 66 (Y.asks c 4) w) := Lib.hid (fun W _ => vpockets_any c W hc)
  have A5 : Hid (Asked c 67 (Y.asks c 5) w) := Lib.hid (fun W hb => vrooks_any c W hc (tb_below hT hb) h7)
  have A6 : Hid (Asked c 44 (Y.asks c 6) w) := Lib.hid (fun W hb => vpassing_any c W hc (tb_below hT hb) ht h64)
  have A7 : Hid (Asked c 68 (Y.asks c 7) w) := Lib.hid (fun W hb => vcheck_any c W hc (tb_below hT hb) ht)
  have HA := Lib.hid (Y.all_pre c hpl)
  have HN2 := Lib.hid (Y.pre_no2 c hpl)
  have HLen := Lib.hid (Y.pre_len c)
  have HS : Hid (∀ n, Y.pre c (n + 1) = Y.pre c n ++ Y.err (Y.asks c n) (Y.code n)) := Lib.hid (fun _ => rfl)
  have HPl := Lib.hid (show Y.asks c 0 = true from hpl)
  clear hc hT ht hv9 h64 h7 hpl
  have hp := PosAt.new w c
  have hb0 : Below w.heap.size w (w.alloc (.cells (posC c) 31)) := (Below.refl _ _).alloc (Nat.le_refl _) _
  obtain ⟨i0, hi, hz0, hz1, hz2⟩ := info_parts Tryd.info_Err
  go_enter Tryd.func17, Tryd.ntmps17
  go_wp2_with (go_at_call 34; refine (questions_any _).mono ?_; rintro e w1 ⟨rfl, hb1⟩)
  have HP1 := Lib.hid (hp.below hb1)
  have HB1 := Lib.hid (below_next hb0 hb1)
  clear hp hb0 hb1
  go_loopw [3, 7] (fun v i wr => ∃ k : Nat, k ≤ 8 ∧ i = .int .i64 (k : Int) ∧ wr.ownsRow (w.heap.size + 1) 42 1 v (Y.pre c k).length (Y.cells (Y.pre c k)) ∧ PosAt wr w.heap.size c ∧ Below w.heap.size w wr) (fun _ i _ => 8 - (intOf i).toNat)
  case atStart => exact ⟨0, Nat.zero_le _, rfl, World.ownsRow_nil _ _ _ _, HP1.out, HB1.out⟩
  case round =>
    obtain ⟨k, hk, rfl, hown, hp, hbr⟩ := hrel
    have hlen := HLen.out k
    obtain ⟨L, hL⟩ : ∃ L, Y.pre c k = L := ⟨_, rfl⟩
    rw [hL] at hown hlen
    have HL := Lib.hid hL
    have HLn := Lib.hid (show L.length ≤ 8 by omega)
    obtain ⟨ao, cap, rfl, hcap, hcm, hao⟩ := row_open1 hown
    have hlt := hp.lt
    have hws := hbr.size
    clear hL hlen hao
    rcases (show k = 0 ∨ k = 1 ∨ k = 2 ∨ k = 3 ∨ k = 4 ∨ k = 5 ∨ k = 6 ∨ k = 7 ∨ k = 8 by omega) with rfl | rfl | rfl | rfl | rfl | rfl | rfl | rfl | rfl
    · have hix : ∀ w, (Instr.index 67 (.agg Tryd.qs) (.int .i64 0)).run Tryd.prog w = .ok (.agg #[.int .i64 2, .func (.func 42) #[] #[]]) w := fun _ => by kernel_rfl
      have HQ := Lib.hid (And.intro (RowAt.new wr #[.int .i64 2, .func (.func 42) #[] #[]] 66) (And.intro (hbr.alloc hws (.cells #[.int .i64 2, .func (.func 42) #[] #[]] 66)) (And.intro (hown.alloc (.cells #[.int .i64 2, .func (.func 42) #[] #[]] 66)) (hp.alloc (.cells #[.int .i64 2, .func (.func 42) #[] #[]] 66)))))
      have HStep := HS.out 0
      rw [HL.out] at HStep
      have HSt := Lib.hid HStep
      clear HStep
      obtain ⟨a0, ha0⟩ : ∃ a, Y.asks c 0 = a := ⟨_, rfl⟩
      rw [ha0] at HSt A0
      rw [ha0] at HPl
      have HN := Lib.hid (fun x hx => HN2.out 0 x (by rw [HL.out]; exact hx))
      clear ha0 hown hp hbr hcap hcm
      cases a0
      · exact absurd HPl.out (by decide)
      · have HE := Lib.hid (show Y.pre c 1 = L by rw [HSt.out]; show L ++ [] = L; rw [List.append_nil])
        obtain rfl : L = [] := HL.out.symm
        clear HSt HN
        go_wp2_with (first
            | ((with_reducible refine wp_load_box rfl _ rfl ?_); refine ⟨_, _, rfl, HQ.out.2.2.2, ?_⟩)
            | ((with_reducible refine wpl_build rfl _ _ rfl ?_); refine ⟨_, _, rfl, Tryd.ask_cells c, ?_⟩)
            | (go_at_call 42; (with_reducible refine (asked_at A0.out _ HQ.out.2.1).mono ?_); rintro e w2 ⟨rfl, hb2⟩; have hown2 := owns_below HQ.out.2.2.1 hb2; have hp2 := HQ.out.2.2.2.below hb2; have hbr2 := below_next HQ.out.2.1 hb2; have q0 := (HQ.out.1.below hb2).cell 0; simp only [List.getElem?_toArray, List.getElem?_cons_zero] at q0; obtain ⟨ao2, cap2, e2, hcap2, hcm2, hao2⟩ := row_open1 hown2; cases e2; have HF := Lib.hid (And.intro hown2 (And.intro hp2 hbr2)); have hw2s : w.heap.size + 1 ≤ w2.heap.size := by have := hp2.lt; omega))
        (go_roundw; (case rel => exact ⟨1, by omega, rfl, (by rw [HE.out]; exact HF.out.1), HF.out.2.1, HF.out.2.2⟩); (case measure => simp [intOf]))
    · have hix : ∀ w, (Instr.index 67 (.agg Tryd.qs) (.int .i64 1)).run Tryd.prog w = .ok (.agg #[.int .i64 125, .func (.func 63) #[] #[]]) w := fun _ => by kernel_rfl
      have HQ := Lib.hid (And.intro (RowAt.new wr #[.int .i64 125, .func (.func 63) #[] #[]] 66) (And.intro (hbr.alloc hws (.cells #[.int .i64 125, .func (.func 63) #[] #[]] 66)) (And.intro (hown.alloc (.cells #[.int .i64 125, .func (.func 63) #[] #[]] 66)) (hp.alloc (.cells #[.int .i64 125, .func (.func 63) #[] #[]] 66)))))
      have HStep := HS.out 1
      rw [HL.out] at HStep
      have HSt := Lib.hid HStep
      clear HStep
      obtain ⟨a1, ha1⟩ : ∃ a, Y.asks c 1 = a := ⟨_, rfl⟩
      rw [ha1] at HSt A1
      skip
      have HN := Lib.hid (fun x hx => HN2.out 1 x (by rw [HL.out]; exact hx))
      clear ha1 hown hp hbr hcap hcm
      cases a1
      · -- wrong
        have HE := Lib.hid (show Y.pre c 2 = L ++ [125] from HSt.out)
        clear HSt HN
        by_cases h0 : L.length = 0
        · have hL0 : L = [] := List.eq_nil_of_length_eq_zero h0
          subst hL0
          clear h0
          go_wp2_with (first
            | ((with_reducible refine wp_load_box rfl _ rfl ?_); refine ⟨_, _, rfl, HQ.out.2.2.2, ?_⟩)
            | ((with_reducible refine wpl_build rfl _ _ rfl ?_); refine ⟨_, _, rfl, Tryd.ask_cells c, ?_⟩)
            | (go_at_call 63; (with_reducible refine (asked_at A1.out _ HQ.out.2.1).mono ?_); rintro e w2 ⟨rfl, hb2⟩; have hown2 := owns_below HQ.out.2.2.1 hb2; have hp2 := HQ.out.2.2.2.below hb2; have hbr2 := below_next HQ.out.2.1 hb2; have q0 := (HQ.out.1.below hb2).cell 0; simp only [List.getElem?_toArray, List.getElem?_cons_zero] at q0; obtain ⟨ao2, cap2, e2, hcap2, hcm2, hao2⟩ := row_open1 hown2; cases e2; have HF := Lib.hid (And.intro hown2 (And.intro hp2 hbr2)); have hw2s : w.heap.size + 1 ≤ w2.heap.size := by have := hp2.lt; omega)
            | (at_builtin; refine wpList_append_own _ rfl _ _ 40 rfl (w.heap.size + 1) 42 i0 (.int .i64 0) 1 8 Tryd.underlying40 hi hz0 hz1 hz2 rfl (by decide) _ _ _ rfl (HF.out.1.alloc _) ⟨w2.heap.size, 0, none⟩ 1 1 [.int .i64 125] rfl rfl (cell_one_new _ _ _) (by simp [Value.oneCell']) (by have := HLn.out; unfold maxLen; omega) (by have := HLn.out; omega) (by simp; omega) ?_; intro v' w3 hown3 hgrow _; obtain ⟨g', cap', rfl⟩ := ownsRow_succ hown3; obtain ⟨hown4, hp4, hbr4⟩ := row_put HF.out hgrow hown3; obtain ⟨b3, e3, hb3, hl3, hc3⟩ := row_first hown4; cases e3; have hf0 : w3.cell? ⟨g', 0, none⟩ = some (.int .i64 125) := hc3 0 _ rfl; clear hc3 hown3 hgrow))
          (go_roundw; (case rel => exact ⟨2, by omega, rfl, (by rw [HE.out, List.length_append, Y.cells_snoc]; exact hown4), hp4, hbr4⟩); (case measure => simp [intOf]))
        · obtain ⟨N, hN⟩ : ∃ N, L.length = N := ⟨_, rfl⟩
          have hN1 : ((N : Int) + 1 == 1) = false := by simp; omega
          have HNN := Lib.hid hN
          rw [hN] at HLn HQ ⊢
          clear h0 hN
          go_wp2_with (first
            | ((with_reducible refine wp_load_box rfl _ rfl ?_); refine ⟨_, _, rfl, HQ.out.2.2.2, ?_⟩)
            | ((with_reducible refine wpl_build rfl _ _ rfl ?_); refine ⟨_, _, rfl, Tryd.ask_cells c, ?_⟩)
            | (go_at_call 63; (with_reducible refine (asked_at A1.out _ HQ.out.2.1).mono ?_); rintro e w2 ⟨rfl, hb2⟩; have hown2 := owns_below HQ.out.2.2.1 hb2; have hp2 := HQ.out.2.2.2.below hb2; have hbr2 := below_next HQ.out.2.1 hb2; have q0 := (HQ.out.1.below hb2).cell 0; simp only [List.getElem?_toArray, List.getElem?_cons_zero] at q0; obtain ⟨ao2, cap2, e2, hcap2, hcm2, hao2⟩ := row_open1 hown2; cases e2; have HF := Lib.hid (And.intro hown2 (And.intro hp2 hbr2)); have hw2s : w.heap.size + 1 ≤ w2.heap.size := by have := hp2.lt; omega)
            | (at_builtin; refine wpList_append_own _ rfl _ _ 40 rfl (w.heap.size + 1) 42 i0 (.int .i64 0) 1 8 Tryd.underlying40 hi hz0 hz1 hz2 rfl (by decide) _ _ _ rfl (HF.out.1.alloc _) ⟨w2.heap.size, 0, none⟩ 1 1 [.int .i64 125] rfl rfl (cell_one_new _ _ _) (by simp [Value.oneCell']) (by have := HLn.out; unfold maxLen; omega) (by have := HLn.out; omega) (by simp; omega) ?_; intro v' w3 hown3 hgrow _; obtain ⟨g', cap', rfl⟩ := ownsRow_succ hown3; obtain ⟨hown4, hp4, hbr4⟩ := row_put HF.out hgrow hown3; obtain ⟨b3, e3, hb3, hl3, hc3⟩ := row_first hown4; cases e3; skip; clear hc3 hown3 hgrow))
          (go_roundw; (case rel => exact ⟨2, by omega, rfl, (by rw [HE.out, List.length_append, Y.cells_snoc]; rw [HNN.out]; exact hown4), hp4, hbr4⟩); (case measure => simp [intOf]))
      · -- it is so
        have HE := Lib.hid (show Y.pre c 2 = L by rw [HSt.out]; show L ++ [] = L; rw [List.append_nil])
        clear HSt
        by_cases h1 : L.length = 1
        · obtain ⟨x, rfl⟩ := List.length_eq_one_iff.1 h1
          have hx2 : (x == 2) = false := by have := HN.out x (List.mem_singleton.2 rfl); simpa using this
          clear HN h1
          go_wp2_with (first
            | ((with_reducible refine wp_load_box rfl _ rfl ?_); refine ⟨_, _, rfl, HQ.out.2.2.2, ?_⟩)
            | ((with_reducible refine wpl_build rfl _ _ rfl ?_); refine ⟨_, _, rfl, Tryd.ask_cells c, ?_⟩)
            | (go_at_call 63; (with_reducible refine (asked_at A1.out _ HQ.out.2.1).mono ?_); rintro e w2 ⟨rfl, hb2⟩; have hown2 := owns_below HQ.out.2.2.1 hb2; have hp2 := HQ.out.2.2.2.below hb2; have hbr2 := below_next HQ.out.2.1 hb2; have q0 := (HQ.out.1.below hb2).cell 0; simp only [List.getElem?_toArray, List.getElem?_cons_zero] at q0; obtain ⟨ao2, cap2, e2, hcap2, hcm2, hao2⟩ := row_open1 hown2; cases e2; obtain ⟨b3, rfl, hb3, hl3, hc3⟩ := hao2 (Nat.succ_pos _); have hf0 : w2.cell? ⟨b3, 0, none⟩ = some (.int .i64 x) := hc3 0 _ rfl; clear hc3; have HF := Lib.hid (And.intro hown2 (And.intro hp2 hbr2)); have hw2s : w.heap.size + 1 ≤ w2.heap.size := by have := hp2.lt; omega))
          (go_roundw; (case rel => exact ⟨2, by omega, rfl, (by rw [HE.out]; exact HF.out.1), HF.out.2.1, HF.out.2.2⟩); (case measure => simp [intOf]))
        · obtain ⟨N, hN⟩ : ∃ N, L.length = N := ⟨_, rfl⟩
          have hN1 : ((N : Int) == 1) = false := by simp; omega
          have HNN := Lib.hid hN
          rw [hN] at HLn HQ ⊢
          clear h1 hN HN
          go_wp2_with (first
            | ((with_reducible refine wp_load_box rfl _ rfl ?_); refine ⟨_, _, rfl, HQ.out.2.2.2, ?_⟩)
            | ((with_reducible refine wpl_build rfl _ _ rfl ?_); refine ⟨_, _, rfl, Tryd.ask_cells c, ?_⟩)
            | (go_at_call 63; (with_reducible refine (asked_at A1.out _ HQ.out.2.1).mono ?_); rintro e w2 ⟨rfl, hb2⟩; have hown2 := owns_below HQ.out.2.2.1 hb2; have hp2 := HQ.out.2.2.2.below hb2; have hbr2 := below_next HQ.out.2.1 hb2; have q0 := (HQ.out.1.below hb2).cell 0; simp only [List.getElem?_toArray, List.getElem?_cons_zero] at q0; obtain ⟨ao2, cap2, e2, hcap2, hcm2, hao2⟩ := row_open1 hown2; cases e2; have HF := Lib.hid (And.intro hown2 (And.intro hp2 hbr2)); have hw2s : w.heap.size + 1 ≤ w2.heap.size := by have := hp2.lt; omega))
          (go_roundw; (case rel => exact ⟨2, by omega, rfl, (by rw [HE.out]; rw [HNN.out]; exact HF.out.1), HF.out.2.1, HF.out.2.2⟩); (case measure => simp [intOf]))
    · have hix : ∀ w, (Instr.index 67 (.agg Tryd.qs) (.int .i64 2)).run Tryd.prog w = .ok (.agg #[.int .i64 120, .func (.func 64) #[] #[]]) w := fun _ => by kernel_rfl
      have HQ := Lib.hid (And.intro (RowAt.new wr #[.int .i64 120, .func (.func 64) #[] #[]] 66) (And.intro (hbr.alloc hws (.cells #[.int .i64 120, .func (.func 64) #[] #[]] 66)) (And.intro (hown.alloc (.cells #[.int .i64 120, .func (.func 64) #[] #[]] 66)) (hp.alloc (.cells #[.int .i64 120, .func (.func 64) #[] #[]] 66)))))
      have HStep := HS.out 2
      rw [HL.out] at HStep
      have HSt := Lib.hid HStep
      clear HStep
      obtain ⟨a2, ha2⟩ : ∃ a, Y.asks c 2 = a := ⟨_, rfl⟩
      rw [ha2] at HSt A2
      skip
      have HN := Lib.hid (fun x hx => HN2.out 2 x (by rw [HL.out]; exact hx))
      clear ha2 hown hp hbr hcap hcm
      cases a2
      · -- wrong
        have HE := Lib.hid (show Y.pre c 3 = L ++ [120] from HSt.out)
        clear HSt HN
        by_cases h0 : L.length = 0
        · have hL0 : L = [] := List.eq_nil_of_length_eq_zero h0
          subst hL0
          clear h0
          go_wp2_with (first
            | ((with_reducible refine wp_load_box rfl _ rfl ?_); refine ⟨_, _, rfl, HQ.out.2.2.2, ?_⟩)
            | ((with_reducible refine wpl_build rfl _ _ rfl ?_); refine ⟨_, _, rfl, Tryd.ask_cells c, ?_⟩)
            | (go_at_call 64; (with_reducible refine (asked_at A2.out _ HQ.out.2.1).mono ?_); rintro e w2 ⟨rfl, hb2⟩; have hown2 := owns_below HQ.out.2.2.1 hb2; have hp2 := HQ.out.2.2.2.below hb2; have hbr2 := below_next HQ.out.2.1 hb2; have q0 := (HQ.out.1.below hb2).cell 0; simp only [List.getElem?_toArray, List.getElem?_cons_zero] at q0; obtain ⟨ao2, cap2, e2, hcap2, hcm2, hao2⟩ := row_open1 hown2; cases e2; have HF := Lib.hid (And.intro hown2 (And.intro hp2 hbr2)); have hw2s : w.heap.size + 1 ≤ w2.heap.size := by have := hp2.lt; omega)
            | (at_builtin; refine wpList_append_own _ rfl _ _ 40 rfl (w.heap.size + 1) 42 i0 (.int .i64 0) 1 8 Tryd.underlying40 hi hz0 hz1 hz2 rfl (by decide) _ _ _ rfl (HF.out.1.alloc _) ⟨w2.heap.size, 0, none⟩ 1 1 [.int .i64 120] rfl rfl (cell_one_new _ _ _) (by simp [Value.oneCell']) (by have := HLn.out; unfold maxLen; omega) (by have := HLn.out; omega) (by simp; omega) ?_; intro v' w3 hown3 hgrow _; obtain ⟨g', cap', rfl⟩ := ownsRow_succ hown3; obtain ⟨hown4, hp4, hbr4⟩ := row_put HF.out hgrow hown3; obtain ⟨b3, e3, hb3, hl3, hc3⟩ := row_first hown4; cases e3; have hf0 : w3.cell? ⟨g', 0, none⟩ = some (.int .i64 120) := hc3 0 _ rfl; clear hc3 hown3 hgrow))
          (go_roundw; (case rel => exact ⟨3, by omega, rfl, (by rw [HE.out, List.length_append, Y.cells_snoc]; exact hown4), hp4, hbr4⟩); (case measure => simp [intOf]))
        · obtain ⟨N, hN⟩ : ∃ N, L.length = N := ⟨_, rfl⟩
          have hN1 : ((N : Int) + 1 == 1) = false := by simp; omega
          have HNN := Lib.hid hN
          rw [hN] at HLn HQ ⊢
          clear h0 hN
          go_wp2_with (first
            | ((with_reducible refine wp_load_box rfl _ rfl ?_); refine ⟨_, _, rfl, HQ.out.2.2.2, ?_⟩)
            | ((with_reducible refine wpl_build rfl _ _ rfl ?_); refine ⟨_, _, rfl, Tryd.ask_cells c, ?_⟩)
            | (go_at_call 64; (with_reducible refine (asked_at A2.out _ HQ.out.2.1).mono ?_); rintro e w2 ⟨rfl, hb2⟩; have hown2 := owns_below HQ.out.2.2.1 hb2; have hp2 := HQ.out.2.2.2.below hb2; have hbr2 := below_next HQ.out.2.1 hb2; have q0 := (HQ.out.1.below hb2).cell 0; simp only [List.getElem?_toArray, List.getElem?_cons_zero] at q0; obtain ⟨ao2, cap2, e2, hcap2, hcm2, hao2⟩ := row_open1 hown2; cases e2; have HF := Lib.hid (And.intro hown2 (And.intro hp2 hbr2)); have hw2s : w.heap.size + 1 ≤ w2.heap.size := by have := hp2.lt; omega)
            | (at_builtin; refine wpList_append_own _ rfl _ _ 40 rfl (w.heap.size + 1) 42 i0 (.int .i64 0) 1 8 Tryd.underlying40 hi hz0 hz1 hz2 rfl (by decide) _ _ _ rfl (HF.out.1.alloc _) ⟨w2.heap.size, 0, none⟩ 1 1 [.int .i64 120] rfl rfl (cell_one_new _ _ _) (by simp [Value.oneCell']) (by have := HLn.out; unfold maxLen; omega) (by have := HLn.out; omega) (by simp; omega) ?_; intro v' w3 hown3 hgrow _; obtain ⟨g', cap', rfl⟩ := ownsRow_succ hown3; obtain ⟨hown4, hp4, hbr4⟩ := row_put HF.out hgrow hown3; obtain ⟨b3, e3, hb3, hl3, hc3⟩ := row_first hown4; cases e3; skip; clear hc3 hown3 hgrow))
          (go_roundw; (case rel => exact ⟨3, by omega, rfl, (by rw [HE.out, List.length_append, Y.cells_snoc]; rw [HNN.out]; exact hown4), hp4, hbr4⟩); (case measure => simp [intOf]))
      · -- it is so
        have HE := Lib.hid (show Y.pre c 3 = L by rw [HSt.out]; show L ++ [] = L; rw [List.append_nil])
        clear HSt
        by_cases h1 : L.length = 1
        · obtain ⟨x, rfl⟩ := List.length_eq_one_iff.1 h1
          have hx2 : (x == 2) = false := by have := HN.out x (List.mem_singleton.2 rfl); simpa using this
          clear HN h1
          go_wp2_with (first
            | ((with_reducible refine wp_load_box rfl _ rfl ?_); refine ⟨_, _, rfl, HQ.out.2.2.2, ?_⟩)
            | ((with_reducible refine wpl_build rfl _ _ rfl ?_); refine ⟨_, _, rfl, Tryd.ask_cells c, ?_⟩)
            | (go_at_call 64; (with_reducible refine (asked_at A2.out _ HQ.out.2.1).mono ?_); rintro e w2 ⟨rfl, hb2⟩; have hown2 := owns_below HQ.out.2.2.1 hb2; have hp2 := HQ.out.2.2.2.below hb2; have hbr2 := below_next HQ.out.2.1 hb2; have q0 := (HQ.out.1.below hb2).cell 0; simp only [List.getElem?_toArray, List.getElem?_cons_zero] at q0; obtain ⟨ao2, cap2, e2, hcap2, hcm2, hao2⟩ := row_open1 hown2; cases e2; obtain ⟨b3, rfl, hb3, hl3, hc3⟩ := hao2 (Nat.succ_pos _); have hf0 : w2.cell? ⟨b3, 0, none⟩ = some (.int .i64 x) := hc3 0 _ rfl; clear hc3; have HF := Lib.hid (And.intro hown2 (And.intro hp2 hbr2)); have hw2s : w.heap.size + 1 ≤ w2.heap.size := by have := hp2.lt; omega))
          (go_roundw; (case rel => exact ⟨3, by omega, rfl, (by rw [HE.out]; exact HF.out.1), HF.out.2.1, HF.out.2.2⟩); (case measure => simp [intOf]))
        · obtain ⟨N, hN⟩ : ∃ N, L.length = N := ⟨_, rfl⟩
          have hN1 : ((N : Int) == 1) = false := by simp; omega
          have HNN := Lib.hid hN
          rw [hN] at HLn HQ ⊢
          clear h1 hN HN
          go_wp2_with (first
            | ((with_reducible refine wp_load_box rfl _ rfl ?_); refine ⟨_, _, rfl, HQ.out.2.2.2, ?_⟩)
            | ((with_reducible refine wpl_build rfl _ _ rfl ?_); refine ⟨_, _, rfl, Tryd.ask_cells c, ?_⟩)
            | (go_at_call 64; (with_reducible refine (asked_at A2.out _ HQ.out.2.1).mono ?_); rintro e w2 ⟨rfl, hb2⟩; have hown2 := owns_below HQ.out.2.2.1 hb2; have hp2 := HQ.out.2.2.2.below hb2; have hbr2 := below_next HQ.out.2.1 hb2; have q0 := (HQ.out.1.below hb2).cell 0; simp only [List.getElem?_toArray, List.getElem?_cons_zero] at q0; obtain ⟨ao2, cap2, e2, hcap2, hcm2, hao2⟩ := row_open1 hown2; cases e2; have HF := Lib.hid (And.intro hown2 (And.intro hp2 hbr2)); have hw2s : w.heap.size + 1 ≤ w2.heap.size := by have := hp2.lt; omega))
          (go_roundw; (case rel => exact ⟨3, by omega, rfl, (by rw [HE.out]; rw [HNN.out]; exact HF.out.1), HF.out.2.1, HF.out.2.2⟩); (case measure => simp [intOf]))
    · have hix : ∀ w, (Instr.index 67 (.agg Tryd.qs) (.int .i64 3)).run Tryd.prog w = .ok (.agg #[.int .i64 121, .func (.func 65) #[] #[]]) w := fun _ => by kernel_rfl
      have HQ := Lib.hid (And.intro (RowAt.new wr #[.int .i64 121, .func (.func 65) #[] #[]] 66) (And.intro (hbr.alloc hws (.cells #[.int .i64 121, .func (.func 65) #[] #[]] 66)) (And.intro (hown.alloc (.cells #[.int .i64 121, .func (.func 65) #[] #[]] 66)) (hp.alloc (.cells #[.int .i64 121, .func (.func 65) #[] #[]] 66)))))
      have HStep := HS.out 3
      rw [HL.out] at HStep
      have HSt := Lib.hid HStep
      clear HStep
      obtain ⟨a3, ha3⟩ : ∃ a, Y.asks c 3 = a := ⟨_, rfl⟩
      rw [ha3] at HSt A3
      skip
      have HN := Lib.hid (fun x hx => HN2.out 3 x (by rw [HL.out]; exact hx))
      clear ha3 hown hp hbr hcap hcm
      cases a3
      · -- wrong
        have HE := Lib.hid (show Y.pre c 4 = L ++ [121] from HSt.out)
        clear HSt HN
        by_cases h0 : L.length = 0
        · have hL0 : L = [] := List.eq_nil_of_length_eq_zero h0
          subst hL0
          clear h0
          go_wp2_with (first
            | ((with_reducible refine wp_load_box rfl _ rfl ?_); refine ⟨_, _, rfl, HQ.out.2.2.2, ?_⟩)
            | ((with_reducible refine wpl_build rfl _ _ rfl ?_); refine ⟨_, _, rfl, Tryd.ask_cells c, ?_⟩)
            | (go_at_call 65; (with_reducible refine (asked_at A3.out _ HQ.out.2.1).mono ?_); rintro e w2 ⟨rfl, hb2⟩; have hown2 := owns_below HQ.out.2.2.1 hb2; have hp2 := HQ.out.2.2.2.below hb2; have hbr2 := below_next HQ.out.2.1 hb2; have q0 := (HQ.out.1.below hb2).cell 0; simp only [List.getElem?_toArray, List.getElem?_cons_zero] at q0; obtain ⟨ao2, cap2, e2, hcap2, hcm2, hao2⟩ := row_open1 hown2; cases e2; have HF := Lib.hid (And.intro hown2 (And.intro hp2 hbr2)); have hw2s : w.heap.size + 1 ≤ w2.heap.size := by have := hp2.lt; omega)
            | (at_builtin; refine wpList_append_own _ rfl _ _ 40 rfl (w.heap.size + 1) 42 i0 (.int .i64 0) 1 8 Tryd.underlying40 hi hz0 hz1 hz2 rfl (by decide) _ _ _ rfl (HF.out.1.alloc _) ⟨w2.heap.size, 0, none⟩ 1 1 [.int .i64 121] rfl rfl (cell_one_new _ _ _) (by simp [Value.oneCell']) (by have := HLn.out; unfold maxLen; omega) (by have := HLn.out; omega) (by simp; omega) ?_; intro v' w3 hown3 hgrow _; obtain ⟨g', cap', rfl⟩ := ownsRow_succ hown3; obtain ⟨hown4, hp4, hbr4⟩ := row_put HF.out hgrow hown3; obtain ⟨b3, e3, hb3, hl3, hc3⟩ := row_first hown4; cases e3; have hf0 : w3.cell? ⟨g', 0, none⟩ = some (.int .i64 121) := hc3 0 _ rfl; clear hc3 hown3 hgrow))
          (go_roundw; (case rel => exact ⟨4, by omega, rfl, (by rw [HE.out, List.length_append, Y.cells_snoc]; exact hown4), hp4, hbr4⟩); (case measure => simp [intOf]))
        · obtain ⟨N, hN⟩ : ∃ N, L.length = N := ⟨_, rfl⟩
          have hN1 : ((N : Int) + 1 == 1) = false := by simp; omega
          have HNN := Lib.hid hN
          rw [hN] at HLn HQ ⊢
          clear h0 hN
          go_wp2_with (first
            | ((with_reducible refine wp_load_box rfl _ rfl ?_); refine ⟨_, _, rfl, HQ.out.2.2.2, ?_⟩)
            | ((with_reducible refine wpl_build rfl _ _ rfl ?_); refine ⟨_, _, rfl, Tryd.ask_cells c, ?_⟩)
            | (go_at_call 65; (with_reducible refine (asked_at A3.out _ HQ.out.2.1).mono ?_); rintro e w2 ⟨rfl, hb2⟩; have hown2 := owns_below HQ.out.2.2.1 hb2; have hp2 := HQ.out.2.2.2.below hb2; have hbr2 := below_next HQ.out.2.1 hb2; have q0 := (HQ.out.1.below hb2).cell 0; simp only [List.getElem?_toArray, List.getElem?_cons_zero] at q0; obtain ⟨ao2, cap2, e2, hcap2, hcm2, hao2⟩ := row_open1 hown2; cases e2; have HF := Lib.hid (And.intro hown2 (And.intro hp2 hbr2)); have hw2s : w.heap.size + 1 ≤ w2.heap.size := by have := hp2.lt; omega)
            | (at_builtin; refine wpList_append_own _ rfl _ _ 40 rfl (w.heap.size + 1) 42 i0 (.int .i64 0) 1 8 Tryd.underlying40 hi hz0 hz1 hz2 rfl (by decide) _ _ _ rfl (HF.out.1.alloc _) ⟨w2.heap.size, 0, none⟩ 1 1 [.int .i64 121] rfl rfl (cell_one_new _ _ _) (by simp [Value.oneCell']) (by have := HLn.out; unfold maxLen; omega) (by have := HLn.out; omega) (by simp; omega) ?_; intro v' w3 hown3 hgrow _; obtain ⟨g', cap', rfl⟩ := ownsRow_succ hown3; obtain ⟨hown4, hp4, hbr4⟩ := row_put HF.out hgrow hown3; obtain ⟨b3, e3, hb3, hl3, hc3⟩ := row_first hown4; cases e3; skip; clear hc3 hown3 hgrow))
          (go_roundw; (case rel => exact ⟨4, by omega, rfl, (by rw [HE.out, List.length_append, Y.cells_snoc]; rw [HNN.out]; exact hown4), hp4, hbr4⟩); (case measure => simp [intOf]))
      · -- it is so
        have HE := Lib.hid (show Y.pre c 4 = L by rw [HSt.out]; show L ++ [] = L; rw [List.append_nil])
        clear HSt
        by_cases h1 : L.length = 1
        · obtain ⟨x, rfl⟩ := List.length_eq_one_iff.1 h1
          have hx2 : (x == 2) = false := by have := HN.out x (List.mem_singleton.2 rfl); simpa using this
          clear HN h1
          go_wp2_with (first
            | ((with_reducible refine wp_load_box rfl _ rfl ?_); refine ⟨_, _, rfl, HQ.out.2.2.2, ?_⟩)
            | ((with_reducible refine wpl_build rfl _ _ rfl ?_); refine ⟨_, _, rfl, Tryd.ask_cells c, ?_⟩)
            | (go_at_call 65; (with_reducible refine (asked_at A3.out _ HQ.out.2.1).mono ?_); rintro e w2 ⟨rfl, hb2⟩; have hown2 := owns_below HQ.out.2.2.1 hb2; have hp2 := HQ.out.2.2.2.below hb2; have hbr2 := below_next HQ.out.2.1 hb2; have q0 := (HQ.out.1.below hb2).cell 0; simp only [List.getElem?_toArray, List.getElem?_cons_zero] at q0; obtain ⟨ao2, cap2, e2, hcap2, hcm2, hao2⟩ := row_open1 hown2; cases e2; obtain ⟨b3, rfl, hb3, hl3, hc3⟩ := hao2 (Nat.succ_pos _); have hf0 : w2.cell? ⟨b3, 0, none⟩ = some (.int .i64 x) := hc3 0 _ rfl; clear hc3; have HF := Lib.hid (And.intro hown2 (And.intro hp2 hbr2)); have hw2s : w.heap.size + 1 ≤ w2.heap.size := by have := hp2.lt; omega))
          (go_roundw; (case rel => exact ⟨4, by omega, rfl, (by rw [HE.out]; exact HF.out.1), HF.out.2.1, HF.out.2.2⟩); (case measure => simp [intOf]))
        · obtain ⟨N, hN⟩ : ∃ N, L.length = N := ⟨_, rfl⟩
          have hN1 : ((N : Int) == 1) = false := by simp; omega
          have HNN := Lib.hid hN
          rw [hN] at HLn HQ ⊢
          clear h1 hN HN
          go_wp2_with (first
            | ((with_reducible refine wp_load_box rfl _ rfl ?_); refine ⟨_, _, rfl, HQ.out.2.2.2, ?_⟩)
            | ((with_reducible refine wpl_build rfl _ _ rfl ?_); refine ⟨_, _, rfl, Tryd.ask_cells c, ?_⟩)
            | (go_at_call 65; (with_reducible refine (asked_at A3.out _ HQ.out.2.1).mono ?_); rintro e w2 ⟨rfl, hb2⟩; have hown2 := owns_below HQ.out.2.2.1 hb2; have hp2 := HQ.out.2.2.2.below hb2; have hbr2 := below_next HQ.out.2.1 hb2; have q0 := (HQ.out.1.below hb2).cell 0; simp only [List.getElem?_toArray, List.getElem?_cons_zero] at q0; obtain ⟨ao2, cap2, e2, hcap2, hcm2, hao2⟩ := row_open1 hown2; cases e2; have HF := Lib.hid (And.intro hown2 (And.intro hp2 hbr2)); have hw2s : w.heap.size + 1 ≤ w2.heap.size := by have := hp2.lt; omega))
          (go_roundw; (case rel => exact ⟨4, by omega, rfl, (by rw [HE.out]; rw [HNN.out]; exact HF.out.1), HF.out.2.1, HF.out.2.2⟩); (case measure => simp [intOf]))
    · have hix : ∀ w, (Instr.index 67 (.agg Tryd.qs) (.int .i64 4)).run Tryd.prog w = .ok (.agg #[.int .i64 122, .func (.func 66) #[] #[]]) w := fun _ => by kernel_rfl
      have HQ := Lib.hid (And.intro (RowAt.new wr #[.int .i64 122, .func (.func 66) #[] #[]] 66) (And.intro (hbr.alloc hws (.cells #[.int .i64 122, .func (.func 66) #[] #[]] 66)) (And.intro (hown.alloc (.cells #[.int .i64 122, .func (.func 66) #[] #[]] 66)) (hp.alloc (.cells #[.int .i64 122, .func (.func 66) #[] #[]] 66)))))
      have HStep := HS.out 4
      rw [HL.out] at HStep
      have HSt := Lib.hid HStep
      clear HStep
      obtain ⟨a4, ha4⟩ : ∃ a, Y.asks c 4 = a := ⟨_, rfl⟩
      rw [ha4] at HSt A4
      skip
      have HN := Lib.hid (fun x hx => HN2.out 4 x (by rw [HL.out]; exact hx))
      clear ha4 hown hp hbr hcap hcm
      cases a4
      · -- wrong
        have HE := Lib.hid (show Y.pre c 5 = L ++ [122] from HSt.out)
        clear HSt HN
        by_cases h0 : L.length = 0
        · have hL0 : L = [] := List.eq_nil_of_length_eq_zero h0
          subst hL0
          clear h0
          go_wp2_with (first
            | ((with_reducible refine wp_load_box rfl _ rfl ?_); refine ⟨_, _, rfl, HQ.out.2.2.2, ?_⟩)
            | ((with_reducible refine wpl_build rfl _ _ rfl ?_); refine ⟨_, _, rfl, Tryd.ask_cells c, ?_⟩)
            | (go_at_call 66; (with_reducible refine (asked_at A4.out _ HQ.out.2.1).mono ?_); rintro e w2 ⟨rfl, hb2⟩; have hown2 := owns_below HQ.out.2.2.1 hb2; have hp2 := HQ.out.2.2.2.below hb2; have hbr2 := below_next HQ.out.2.1 hb2; have q0 := (HQ.out.1.below hb2).cell 0; simp only [List.getElem?_toArray, List.getElem?_cons_zero] at q0; obtain ⟨ao2, cap2, e2, hcap2, hcm2, hao2⟩ := row_open1 hown2; cases e2; have HF := Lib.hid (And.intro hown2 (And.intro hp2 hbr2)); have hw2s : w.heap.size + 1 ≤ w2.heap.size := by have := hp2.lt; omega)
            | (at_builtin; refine wpList_append_own _ rfl _ _ 40 rfl (w.heap.size + 1) 42 i0 (.int .i64 0) 1 8 Tryd.underlying40 hi hz0 hz1 hz2 rfl (by decide) _ _ _ rfl (HF.out.1.alloc _) ⟨w2.heap.size, 0, none⟩ 1 1 [.int .i64 122] rfl rfl (cell_one_new _ _ _) (by simp [Value.oneCell']) (by have := HLn.out; unfold maxLen; omega) (by have := HLn.out; omega) (by simp; omega) ?_; intro v' w3 hown3 hgrow _; obtain ⟨g', cap', rfl⟩ := ownsRow_succ hown3; obtain ⟨hown4, hp4, hbr4⟩ := row_put HF.out hgrow hown3; obtain ⟨b3, e3, hb3, hl3, hc3⟩ := row_first hown4; cases e3; have hf0 : w3.cell? ⟨g', 0, none⟩ = some (.int .i64 122) := hc3 0 _ rfl; clear hc3 hown3 hgrow))
          (go_roundw; (case rel => exact ⟨5, by omega, rfl, (by rw [HE.out, List.length_append, Y.cells_snoc]; exact hown4), hp4, hbr4⟩); (case measure => simp [intOf]))
        · obtain ⟨N, hN⟩ : ∃ N, L.length = N := ⟨_, rfl⟩
          have hN1 : ((N : Int) + 1 == 1) = false := by simp; omega
          have HNN := Lib.hid hN
          rw [hN] at HLn HQ ⊢
          clear h0 hN
          go_wp2_with (first
            | ((with_reducible refine wp_load_box rfl _ rfl ?_); refine ⟨_, _, rfl, HQ.out.2.2.2, ?_⟩)
            | ((with_reducible refine wpl_build rfl _ _ rfl ?_); refine ⟨_, _, rfl, Tryd.ask_cells c, ?_⟩)
            | (go_at_call 66; (with_reducible refine (asked_at A4.out _ HQ.out.2.1).mono ?_); rintro e w2 ⟨rfl, hb2⟩; have hown2 := owns_below HQ.out.2.2.1 hb2; have hp2 := HQ.out.2.2.2.below hb2; have hbr2 := below_next HQ.out.2.1 hb2; have q0 := (HQ.out.1.below hb2).cell 0; simp only [List.getElem?_toArray, List.getElem?_cons_zero] at q0; obtain ⟨ao2, cap2, e2, hcap2, hcm2, hao2⟩ := row_open1 hown2; cases e2; have HF := Lib.hid (And.intro hown2 (And.intro hp2 hbr2)); have hw2s : w.heap.size + 1 ≤ w2.heap.size := by have := hp2.lt; omega)
            | (at_builtin; refine wpList_append_own _ rfl _ _ 40 rfl (w.heap.size + 1) 42 i0 (.int .i64 0) 1 8 Tryd.underlying40 hi hz0 hz1 hz2 rfl (by decide) _ _ _ rfl (HF.out.1.alloc _) ⟨w2.heap.size, 0, none⟩ 1 1 [.int .i64 122] rfl rfl (cell_one_new _ _ _) (by simp [Value.oneCell']) (by have := HLn.out; unfold maxLen; omega) (by have := HLn.out; omega) (by simp; omega) ?_; intro v' w3 hown3 hgrow _; obtain ⟨g', cap', rfl⟩ := ownsRow_succ hown3; obtain ⟨hown4, hp4, hbr4⟩ := row_put HF.out hgrow hown3; obtain ⟨b3, e3, hb3, hl3, hc3⟩ := row_first hown4; cases e3; skip; clear hc3 hown3 hgrow))
          (go_roundw; (case rel => exact ⟨5, by omega, rfl, (by rw [HE.out, List.length_append, Y.cells_snoc]; rw [HNN.out]; exact hown4), hp4, hbr4⟩); (case measure => simp [intOf]))
      · -- it is so
        have HE := Lib.hid (show Y.pre c 5 = L by rw [HSt.out]; show L ++ [] = L; rw [List.append_nil])
        clear HSt
        by_cases h1 : L.length = 1
        · obtain ⟨x, rfl⟩ := List.length_eq_one_iff.1 h1
          have hx2 : (x == 2) = false := by have := HN.out x (List.mem_singleton.2 rfl); simpa using this
          clear HN h1
          go_wp2_with (first
            | ((with_reducible refine wp_load_box rfl _ rfl ?_); refine ⟨_, _, rfl, HQ.out.2.2.2, ?_⟩)
            | ((with_reducible refine wpl_build rfl _ _ rfl ?_); refine ⟨_, _, rfl, Tryd.ask_cells c, ?_⟩)
            | (go_at_call 66; (with_reducible refine (asked_at A4.out _ HQ.out.2.1).mono ?_); rintro e w2 ⟨rfl, hb2⟩; have hown2 := owns_below HQ.out.2.2.1 hb2; have hp2 := HQ.out.2.2.2.below hb2; have hbr2 := below_next HQ.out.2.1 hb2; have q0 := (HQ.out.1.below hb2).cell 0; simp only [List.getElem?_toArray, List.getElem?_cons_zero] at q0; obtain ⟨ao2, cap2, e2, hcap2, hcm2, hao2⟩ := row_open1 hown2; cases e2; obtain ⟨b3, rfl, hb3, hl3, hc3⟩ := hao2 (Nat.succ_pos _); have hf0 : w2.cell? ⟨b3, 0, none⟩ = some (.int .i64 x) := hc3 0 _ rfl; clear hc3; have HF := Lib.hid (And.intro hown2 (And.intro hp2 hbr2)); have hw2s : w.heap.size + 1 ≤ w2.heap.size := by have := hp2.lt; omega))
          (go_roundw; (case rel => exact ⟨5, by omega, rfl, (by rw [HE.out]; exact HF.out.1), HF.out.2.1, HF.out.2.2⟩); (case measure => simp [intOf]))
        · obtain ⟨N, hN⟩ : ∃ N, L.length = N := ⟨_, rfl⟩
          have hN1 : ((N : Int) == 1) = false := by simp; omega
          have HNN := Lib.hid hN
          rw [hN] at HLn HQ ⊢
          clear h1 hN HN
          go_wp2_with (first
            | ((with_reducible refine wp_load_box rfl _ rfl ?_); refine ⟨_, _, rfl, HQ.out.2.2.2, ?_⟩)
            | ((with_reducible refine wpl_build rfl _ _ rfl ?_); refine ⟨_, _, rfl, Tryd.ask_cells c, ?_⟩)
            | (go_at_call 66; (with_reducible refine (asked_at A4.out _ HQ.out.2.1).mono ?_); rintro e w2 ⟨rfl, hb2⟩; have hown2 := owns_below HQ.out.2.2.1 hb2; have hp2 := HQ.out.2.2.2.below hb2; have hbr2 := below_next HQ.out.2.1 hb2; have q0 := (HQ.out.1.below hb2).cell 0; simp only [List.getElem?_toArray, List.getElem?_cons_zero] at q0; obtain ⟨ao2, cap2, e2, hcap2, hcm2, hao2⟩ := row_open1 hown2; cases e2; have HF := Lib.hid (And.intro hown2 (And.intro hp2 hbr2)); have hw2s : w.heap.size + 1 ≤ w2.heap.size := by have := hp2.lt; omega))
          (go_roundw; (case rel => exact ⟨5, by omega, rfl, (by rw [HE.out]; rw [HNN.out]; exact HF.out.1), HF.out.2.1, HF.out.2.2⟩); (case measure => simp [intOf]))
    · have hix : ∀ w, (Instr.index 67 (.agg Tryd.qs) (.int .i64 5)).run Tryd.prog w = .ok (.agg #[.int .i64 123, .func (.func 67) #[] #[]]) w := fun _ => by kernel_rfl
      have HQ := Lib.hid (And.intro (RowAt.new wr #[.int .i64 123, .func (.func 67) #[] #[]] 66) (And.intro (hbr.alloc hws (.cells #[.int .i64 123, .func (.func 67) #[] #[]] 66)) (And.intro (hown.alloc (.cells #[.int .i64 123, .func (.func 67) #[] #[]] 66)) (hp.alloc (.cells #[.int .i64 123, .func (.func 67) #[] #[]] 66)))))
      have HStep := HS.out 5
      rw [HL.out] at HStep
      have HSt := Lib.hid HStep
      clear HStep
      obtain ⟨a5, ha5⟩ : ∃ a, Y.asks c 5 = a := ⟨_, rfl⟩
      rw [ha5] at HSt A5
      skip
      have HN := Lib.hid (fun x hx => HN2.out 5 x (by rw [HL.out]; exact hx))
      clear ha5 hown hp hbr hcap hcm
      cases a5
      · -- wrong
        have HE := Lib.hid (show Y.pre c 6 = L ++ [123] from HSt.out)
        clear HSt HN
        by_cases h0 : L.length = 0
        · have hL0 : L = [] := List.eq_nil_of_length_eq_zero h0
          subst hL0
          clear h0
          go_wp2_with (first
            | ((with_reducible refine wp_load_box rfl _ rfl ?_); refine ⟨_, _, rfl, HQ.out.2.2.2, ?_⟩)
            | ((with_reducible refine wpl_build rfl _ _ rfl ?_); refine ⟨_, _, rfl, Tryd.ask_cells c, ?_⟩)
            | (go_at_call 67; (with_reducible refine (asked_at A5.out _ HQ.out.2.1).mono ?_); rintro e w2 ⟨rfl, hb2⟩; have hown2 := owns_below HQ.out.2.2.1 hb2; have hp2 := HQ.out.2.2.2.below hb2; have hbr2 := below_next HQ.out.2.1 hb2; have q0 := (HQ.out.1.below hb2).cell 0; simp only [List.getElem?_toArray, List.getElem?_cons_zero] at q0; obtain ⟨ao2, cap2, e2, hcap2, hcm2, hao2⟩ := row_open1 hown2; cases e2; have HF := Lib.hid (And.intro hown2 (And.intro hp2 hbr2)); have hw2s : w.heap.size + 1 ≤ w2.heap.size := by have := hp2.lt; omega)
            | (at_builtin; refine wpList_append_own _ rfl _ _ 40 rfl (w.heap.size + 1) 42 i0 (.int .i64 0) 1 8 Tryd.underlying40 hi hz0 hz1 hz2 rfl (by decide) _ _ _ rfl (HF.out.1.alloc _) ⟨w2.heap.size, 0, none⟩ 1 1 [.int .i64 123] rfl rfl (cell_one_new _ _ _) (by simp [Value.oneCell']) (by have := HLn.out; unfold maxLen; omega) (by have := HLn.out; omega) (by simp; omega) ?_; intro v' w3 hown3 hgrow _; obtain ⟨g', cap', rfl⟩ := ownsRow_succ hown3; obtain ⟨hown4, hp4, hbr4⟩ := row_put HF.out hgrow hown3; obtain ⟨b3, e3, hb3, hl3, hc3⟩ := row_first hown4; cases e3; have hf0 : w3.cell? ⟨g', 0, none⟩ = some (.int .i64 123) := hc3 0 _ rfl; clear hc3 hown3 hgrow))
          (go_roundw; (case rel => exact ⟨6, by omega, rfl, (by rw [HE.out, List.length_append, Y.cells_snoc]; exact hown4), hp4, hbr4⟩); (case measure => simp [intOf]))
        · obtain ⟨N, hN⟩ : ∃ N, L.length = N := ⟨_, rfl⟩
          have hN1 : ((N : Int) + 1 == 1) = false := by simp; omega
          have HNN := Lib.hid hN
          rw [hN] at HLn HQ ⊢
          clear h0 hN
          go_wp2_with (first
            | ((with_reducible refine wp_load_box rfl _ rfl ?_); refine ⟨_, _, rfl, HQ.out.2.2.2, ?_⟩)
            | ((with_reducible refine wpl_build rfl _ _ rfl ?_); refine ⟨_, _, rfl, Tryd.ask_cells c, ?_⟩)
            | (go_at_call 67; (with_reducible refine (asked_at A5.out _ HQ.out.2.1).mono ?_); rintro e w2 ⟨rfl, hb2⟩; have hown2 := owns_below HQ.out.2.2.1 hb2; have hp2 := HQ.out.2.2.2.below hb2; have hbr2 := below_next HQ.out.2.1 hb2; have q0 := (HQ.out.1.below hb2).cell 0; simp only [List.getElem?_toArray, List.getElem?_cons_zero] at q0; obtain ⟨ao2, cap2, e2, hcap2, hcm2, hao2⟩ := row_open1 hown2; cases e2; have HF := Lib.hid (And.intro hown2 (And.intro hp2 hbr2)); have hw2s : w.heap.size + 1 ≤ w2.heap.size := by have := hp2.lt; omega)
            | (at_builtin; refine wpList_append_own _ rfl _ _ 40 rfl (w.heap.size + 1) 42 i0 (.int .i64 0) 1 8 Tryd.underlying40 hi hz0 hz1 hz2 rfl (by decide) _ _ _ rfl (HF.out.1.alloc _) ⟨w2.heap.size, 0, none⟩ 1 1 [.int .i64 123] rfl rfl (cell_one_new _ _ _) (by simp [Value.oneCell']) (by have := HLn.out; unfold maxLen; omega) (by have := HLn.out; omega) (by simp; omega) ?_; intro v' w3 hown3 hgrow _; obtain ⟨g', cap', rfl⟩ := ownsRow_succ hown3; obtain ⟨hown4, hp4, hbr4⟩ := row_put HF.out hgrow hown3; obtain ⟨b3, e3, hb3, hl3, hc3⟩ := row_first hown4; cases e3; skip; clear hc3 hown3 hgrow))
          (go_roundw; (case rel => exact ⟨6, by omega, rfl, (by rw [HE.out, List.length_append, Y.cells_snoc]; rw [HNN.out]; exact hown4), hp4, hbr4⟩); (case measure => simp [intOf]))
      · -- it is so
        have HE := Lib.hid (show Y.pre c 6 = L by rw [HSt.out]; show L ++ [] = L; rw [List.append_nil])
        clear HSt
        by_cases h1 : L.length = 1
        · obtain ⟨x, rfl⟩ := List.length_eq_one_iff.1 h1
          have hx2 : (x == 2) = false := by have := HN.out x (List.mem_singleton.2 rfl); simpa using this
          clear HN h1
          go_wp2_with (first
            | ((with_reducible refine wp_load_box rfl _ rfl ?_); refine ⟨_, _, rfl, HQ.out.2.2.2, ?_⟩)
            | ((with_reducible refine wpl_build rfl _ _ rfl ?_); refine ⟨_, _, rfl, Tryd.ask_cells c, ?_⟩)
            | (go_at_call 67; (with_reducible refine (asked_at A5.out _ HQ.out.2.1).mono ?_); rintro e w2 ⟨rfl, hb2⟩; have hown2 := owns_below HQ.out.2.2.1 hb2; have hp2 := HQ.out.2.2.2.below hb2; have hbr2 := below_next HQ.out.2.1 hb2; have q0 := (HQ.out.1.below hb2).cell 0; simp only [List.getElem?_toArray, List.getElem?_cons_zero] at q0; obtain ⟨ao2, cap2, e2, hcap2, hcm2, hao2⟩ := row_open1 hown2; cases e2; obtain ⟨b3, rfl, hb3, hl3, hc3⟩ := hao2 (Nat.succ_pos _); have hf0 : w2.cell? ⟨b3, 0, none⟩ = some (.int .i64 x) := hc3 0 _ rfl; clear hc3; have HF := Lib.hid (And.intro hown2 (And.intro hp2 hbr2)); have hw2s : w.heap.size + 1 ≤ w2.heap.size := by have := hp2.lt; omega))
          (go_roundw; (case rel => exact ⟨6, by omega, rfl, (by rw [HE.out]; exact HF.out.1), HF.out.2.1, HF.out.2.2⟩); (case measure => simp [intOf]))
        · obtain ⟨N, hN⟩ : ∃ N, L.length = N := ⟨_, rfl⟩
          have hN1 : ((N : Int) == 1) = false := by simp; omega
          have HNN := Lib.hid hN
          rw [hN] at HLn HQ ⊢
          clear h1 hN HN
          go_wp2_with (first
            | ((with_reducible refine wp_load_box rfl _ rfl ?_); refine ⟨_, _, rfl, HQ.out.2.2.2, ?_⟩)
            | ((with_reducible refine wpl_build rfl _ _ rfl ?_); refine ⟨_, _, rfl, Tryd.ask_cells c, ?_⟩)
            | (go_at_call 67; (with_reducible refine (asked_at A5.out _ HQ.out.2.1).mono ?_); rintro e w2 ⟨rfl, hb2⟩; have hown2 := owns_below HQ.out.2.2.1 hb2; have hp2 := HQ.out.2.2.2.below hb2; have hbr2 := below_next HQ.out.2.1 hb2; have q0 := (HQ.out.1.below hb2).cell 0; simp only [List.getElem?_toArray, List.getElem?_cons_zero] at q0; obtain ⟨ao2, cap2, e2, hcap2, hcm2, hao2⟩ := row_open1 hown2; cases e2; have HF := Lib.hid (And.intro hown2 (And.intro hp2 hbr2)); have hw2s : w.heap.size + 1 ≤ w2.heap.size := by have := hp2.lt; omega))
          (go_roundw; (case rel => exact ⟨6, by omega, rfl, (by rw [HE.out]; rw [HNN.out]; exact HF.out.1), HF.out.2.1, HF.out.2.2⟩); (case measure => simp [intOf]))
    · have hix : ∀ w, (Instr.index 67 (.agg Tryd.qs) (.int .i64 6)).run Tryd.prog w = .ok (.agg #[.int .i64 124, .func (.func 44) #[] #[]]) w := fun _ => by kernel_rfl
      have HQ := Lib.hid (And.intro (RowAt.new wr #[.int .i64 124, .func (.func 44) #[] #[]] 66) (And.intro (hbr.alloc hws (.cells #[.int .i64 124, .func (.func 44) #[] #[]] 66)) (And.intro (hown.alloc (.cells #[.int .i64 124, .func (.func 44) #[] #[]] 66)) (hp.alloc (.cells #[.int .i64 124, .func (.func 44) #[] #[]] 66)))))
      have HStep := HS.out 6
      rw [HL.out] at HStep
      have HSt := Lib.hid HStep
      clear HStep
      obtain ⟨a6, ha6⟩ : ∃ a, Y.asks c 6 = a := ⟨_, rfl⟩
      rw [ha6] at HSt A6
      skip
      have HN := Lib.hid (fun x hx => HN2.out 6 x (by rw [HL.out]; exact hx))
      clear ha6 hown hp hbr hcap hcm
      cases a6
      · -- wrong
        have HE := Lib.hid (show Y.pre c 7 = L ++ [124] from HSt.out)
        clear HSt HN
        by_cases h0 : L.length = 0
        · have hL0 : L = [] := List.eq_nil_of_length_eq_zero h0
          subst hL0
          clear h0
          go_wp2_with (first
            | ((with_reducible refine wp_load_box rfl _ rfl ?_); refine ⟨_, _, rfl, HQ.out.2.2.2, ?_⟩)
            | ((with_reducible refine wpl_build rfl _ _ rfl ?_); refine ⟨_, _, rfl, Tryd.ask_cells c, ?_⟩)
            | (go_at_call 44; (with_reducible refine (asked_at A6.out _ HQ.out.2.1).mono ?_); rintro e w2 ⟨rfl, hb2⟩; have hown2 := owns_below HQ.out.2.2.1 hb2; have hp2 := HQ.out.2.2.2.below hb2; have hbr2 := below_next HQ.out.2.1 hb2; have q0 := (HQ.out.1.below hb2).cell 0; simp only [List.getElem?_toArray, List.getElem?_cons_zero] at q0; obtain ⟨ao2, cap2, e2, hcap2, hcm2, hao2⟩ := row_open1 hown2; cases e2; have HF := Lib.hid (And.intro hown2 (And.intro hp2 hbr2)); have hw2s : w.heap.size + 1 ≤ w2.heap.size := by have := hp2.lt; omega)
            | (at_builtin; refine wpList_append_own _ rfl _ _ 40 rfl (w.heap.size + 1) 42 i0 (.int .i64 0) 1 8 Tryd.underlying40 hi hz0 hz1 hz2 rfl (by decide) _ _ _ rfl (HF.out.1.alloc _) ⟨w2.heap.size, 0, none⟩ 1 1 [.int .i64 124] rfl rfl (cell_one_new _ _ _) (by simp [Value.oneCell']) (by have := HLn.out; unfold maxLen; omega) (by have := HLn.out; omega) (by simp; omega) ?_; intro v' w3 hown3 hgrow _; obtain ⟨g', cap', rfl⟩ := ownsRow_succ hown3; obtain ⟨hown4, hp4, hbr4⟩ := row_put HF.out hgrow hown3; obtain ⟨b3, e3, hb3, hl3, hc3⟩ := row_first hown4; cases e3; have hf0 : w3.cell? ⟨g', 0, none⟩ = some (.int .i64 124) := hc3 0 _ rfl; clear hc3 hown3 hgrow))
          (go_roundw; (case rel => exact ⟨7, by omega, rfl, (by rw [HE.out, List.length_append, Y.cells_snoc]; exact hown4), hp4, hbr4⟩); (case measure => simp [intOf]))
        · obtain ⟨N, hN⟩ : ∃ N, L.length = N := ⟨_, rfl⟩
          have hN1 : ((N : Int) + 1 == 1) = false := by simp; omega
          have HNN := Lib.hid hN
          rw [hN] at HLn HQ ⊢
          clear h0 hN
          go_wp2_with (first
            | ((with_reducible refine wp_load_box rfl _ rfl ?_); refine ⟨_, _, rfl, HQ.out.2.2.2, ?_⟩)
            | ((with_reducible refine wpl_build rfl _ _ rfl ?_); refine ⟨_, _, rfl, Tryd.ask_cells c, ?_⟩)
            | (go_at_call 44; (with_reducible refine (asked_at A6.out _ HQ.out.2.1).mono ?_); rintro e w2 ⟨rfl, hb2⟩; have hown2 := owns_below HQ.out.2.2.1 hb2; have hp2 := HQ.out.2.2.2.below hb2; have hbr2 := below_next HQ.out.2.1 hb2; have q0 := (HQ.out.1.below hb2).cell 0; simp only [List.getElem?_toArray, List.getElem?_cons_zero] at q0; obtain ⟨ao2, cap2, e2, hcap2, hcm2, hao2⟩ := row_open1 hown2; cases e2; have HF := Lib.hid (And.intro hown2 (And.intro hp2 hbr2)); have hw2s : w.heap.size + 1 ≤ w2.heap.size := by have := hp2.lt; omega)
            | (at_builtin; refine wpList_append_own _ rfl _ _ 40 rfl (w.heap.size + 1) 42 i0 (.int .i64 0) 1 8 Tryd.underlying40 hi hz0 hz1 hz2 rfl (by decide) _ _ _ rfl (HF.out.1.alloc _) ⟨w2.heap.size, 0, none⟩ 1 1 [.int .i64 124] rfl rfl (cell_one_new _ _ _) (by simp [Value.oneCell']) (by have := HLn.out; unfold maxLen; omega) (by have := HLn.out; omega) (by simp; omega) ?_; intro v' w3 hown3 hgrow _; obtain ⟨g', cap', rfl⟩ := ownsRow_succ hown3; obtain ⟨hown4, hp4, hbr4⟩ := row_put HF.out hgrow hown3; obtain ⟨b3, e3, hb3, hl3, hc3⟩ := row_first hown4; cases e3; skip; clear hc3 hown3 hgrow))
          (go_roundw; (case rel => exact ⟨7, by omega, rfl, (by rw [HE.out, List.length_append, Y.cells_snoc]; rw [HNN.out]; exact hown4), hp4, hbr4⟩); (case measure => simp [intOf]))
      · -- it is so
        have HE := Lib.hid (show Y.pre c 7 = L by rw [HSt.out]; show L ++ [] = L; rw [List.append_nil])
        clear HSt
        by_cases h1 : L.length = 1
        · obtain ⟨x, rfl⟩ := List.length_eq_one_iff.1 h1
          have hx2 : (x == 2) = false := by have := HN.out x (List.mem_singleton.2 rfl); simpa using this
          clear HN h1
          go_wp2_with (first
            | ((with_reducible refine wp_load_box rfl _ rfl ?_); refine ⟨_, _, rfl, HQ.out.2.2.2, ?_⟩)
            | ((with_reducible refine wpl_build rfl _ _ rfl ?_); refine ⟨_, _, rfl, Tryd.ask_cells c, ?_⟩)
            | (go_at_call 44; (with_reducible refine (asked_at A6.out _ HQ.out.2.1).mono ?_); rintro e w2 ⟨rfl, hb2⟩; have hown2 := owns_below HQ.out.2.2.1 hb2; have hp2 := HQ.out.2.2.2.below hb2; have hbr2 := below_next HQ.out.2.1 hb2; have q0 := (HQ.out.1.below hb2).cell 0; simp only [List.getElem?_toArray, List.getElem?_cons_zero] at q0; obtain ⟨ao2, cap2, e2, hcap2, hcm2, hao2⟩ := row_open1 hown2; cases e2; obtain ⟨b3, rfl, hb3, hl3, hc3⟩ := hao2 (Nat.succ_pos _); have hf0 : w2.cell? ⟨b3, 0, none⟩ = some (.int .i64 x) := hc3 0 _ rfl; clear hc3; have HF := Lib.hid (And.intro hown2 (And.intro hp2 hbr2)); have hw2s : w.heap.size + 1 ≤ w2.heap.size := by have := hp2.lt; omega))
          (go_roundw; (case rel => exact ⟨7, by omega, rfl, (by rw [HE.out]; exact HF.out.1), HF.out.2.1, HF.out.2.2⟩); (case measure => simp [intOf]))
        · obtain ⟨N, hN⟩ : ∃ N, L.length = N := ⟨_, rfl⟩
          have hN1 : ((N : Int) == 1) = false := by simp; omega
          have HNN := Lib.hid hN
          rw [hN] at HLn HQ ⊢
          clear h1 hN HN
          go_wp2_with (first
            | ((with_reducible refine wp_load_box rfl _ rfl ?_); refine ⟨_, _, rfl, HQ.out.2.2.2, ?_⟩)
            | ((with_reducible refine wpl_build rfl _ _ rfl ?_); refine ⟨_, _, rfl, Tryd.ask_cells c, ?_⟩)
            | (go_at_call 44; (with_reducible refine (asked_at A6.out _ HQ.out.2.1).mono ?_); rintro e w2 ⟨rfl, hb2⟩; have hown2 := owns_below HQ.out.2.2.1 hb2; have hp2 := HQ.out.2.2.2.below hb2; have hbr2 := below_next HQ.out.2.1 hb2; have q0 := (HQ.out.1.below hb2).cell 0; simp only [List.getElem?_toArray, List.getElem?_cons_zero] at q0; obtain ⟨ao2, cap2, e2, hcap2, hcm2, hao2⟩ := row_open1 hown2; cases e2; have HF := Lib.hid (And.intro hown2 (And.intro hp2 hbr2)); have hw2s : w.heap.size + 1 ≤ w2.heap.size := by have := hp2.lt; omega))
          (go_roundw; (case rel => exact ⟨7, by omega, rfl, (by rw [HE.out]; rw [HNN.out]; exact HF.out.1), HF.out.2.1, HF.out.2.2⟩); (case measure => simp [intOf]))
    · have hix : ∀ w, (Instr.index 67 (.agg Tryd.qs) (.int .i64 7)).run Tryd.prog w = .ok (.agg #[.int .i64 126, .func (.func 68) #[] #[]]) w := fun _ => by kernel_rfl
      have HQ := Lib.hid (And.intro (RowAt.new wr #[.int .i64 126, .func (.func 68) #[] #[]] 66) (And.intro (hbr.alloc hws (.cells #[.int .i64 126, .func (.func 68) #[] #[]] 66)) (And.intro (hown.alloc (.cells #[.int .i64 126, .func (.func 68) #[] #[]] 66)) (hp.alloc (.cells #[.int .i64 126, .func (.func 68) #[] #[]] 66)))))
      have HStep := HS.out 7
      rw [HL.out] at HStep
      have HSt := Lib.hid HStep
      clear HStep
      obtain ⟨a7, ha7⟩ : ∃ a, Y.asks c 7 = a := ⟨_, rfl⟩
      rw [ha7] at HSt A7
      skip
      have HN := Lib.hid (fun x hx => HN2.out 7 x (by rw [HL.out]; exact hx))
      clear ha7 hown hp hbr hcap hcm
      cases a7
      · -- wrong
        have HE := Lib.hid (show Y.pre c 8 = L ++ [126] from HSt.out)
        clear HSt HN
        by_cases h0 : L.length = 0
        · have hL0 : L = [] := List.eq_nil_of_length_eq_zero h0
          subst hL0
          clear h0
          go_wp2_with (first
            | ((with_reducible refine wp_load_box rfl _ rfl ?_); refine ⟨_, _, rfl, HQ.out.2.2.2, ?_⟩)
            | ((with_reducible refine wpl_build rfl _ _ rfl ?_); refine ⟨_, _, rfl, Tryd.ask_cells c, ?_⟩)
            | (go_at_call 68; (with_reducible refine (asked_at A7.out _ HQ.out.2.1).mono ?_); rintro e w2 ⟨rfl, hb2⟩; have hown2 := owns_below HQ.out.2.2.1 hb2; have hp2 := HQ.out.2.2.2.below hb2; have hbr2 := below_next HQ.out.2.1 hb2; have q0 := (HQ.out.1.below hb2).cell 0; simp only [List.getElem?_toArray, List.getElem?_cons_zero] at q0; obtain ⟨ao2, cap2, e2, hcap2, hcm2, hao2⟩ := row_open1 hown2; cases e2; have HF := Lib.hid (And.intro hown2 (And.intro hp2 hbr2)); have hw2s : w.heap.size + 1 ≤ w2.heap.size := by have := hp2.lt; omega)
            | (at_builtin; refine wpList_append_own _ rfl _ _ 40 rfl (w.heap.size + 1) 42 i0 (.int .i64 0) 1 8 Tryd.underlying40 hi hz0 hz1 hz2 rfl (by decide) _ _ _ rfl (HF.out.1.alloc _) ⟨w2.heap.size, 0, none⟩ 1 1 [.int .i64 126] rfl rfl (cell_one_new _ _ _) (by simp [Value.oneCell']) (by have := HLn.out; unfold maxLen; omega) (by have := HLn.out; omega) (by simp; omega) ?_; intro v' w3 hown3 hgrow _; obtain ⟨g', cap', rfl⟩ := ownsRow_succ hown3; obtain ⟨hown4, hp4, hbr4⟩ := row_put HF.out hgrow hown3; obtain ⟨b3, e3, hb3, hl3, hc3⟩ := row_first hown4; cases e3; have hf0 : w3.cell? ⟨g', 0, none⟩ = some (.int .i64 126) := hc3 0 _ rfl; clear hc3 hown3 hgrow))
          (go_roundw; (case rel => exact ⟨8, by omega, rfl, (by rw [HE.out, List.length_append, Y.cells_snoc]; exact hown4), hp4, hbr4⟩); (case measure => simp [intOf]))
        · obtain ⟨N, hN⟩ : ∃ N, L.length = N := ⟨_, rfl⟩
          have hN1 : ((N : Int) + 1 == 1) = false := by simp; omega
          have HNN := Lib.hid hN
          rw [hN] at HLn HQ ⊢
          clear h0 hN
          go_wp2_with (first
            | ((with_reducible refine wp_load_box rfl _ rfl ?_); refine ⟨_, _, rfl, HQ.out.2.2.2, ?_⟩)
            | ((with_reducible refine wpl_build rfl _ _ rfl ?_); refine ⟨_, _, rfl, Tryd.ask_cells c, ?_⟩)
            | (go_at_call 68; (with_reducible refine (asked_at A7.out _ HQ.out.2.1).mono ?_); rintro e w2 ⟨rfl, hb2⟩; have hown2 := owns_below HQ.out.2.2.1 hb2; have hp2 := HQ.out.2.2.2.below hb2; have hbr2 := below_next HQ.out.2.1 hb2; have q0 := (HQ.out.1.below hb2).cell 0; simp only [List.getElem?_toArray, List.getElem?_cons_zero] at q0; obtain ⟨ao2, cap2, e2, hcap2, hcm2, hao2⟩ := row_open1 hown2; cases e2; have HF := Lib.hid (And.intro hown2 (And.intro hp2 hbr2)); have hw2s : w.heap.size + 1 ≤ w2.heap.size := by have := hp2.lt; omega)
            | (at_builtin; refine wpList_append_own _ rfl _ _ 40 rfl (w.heap.size + 1) 42 i0 (.int .i64 0) 1 8 Tryd.underlying40 hi hz0 hz1 hz2 rfl (by decide) _ _ _ rfl (HF.out.1.alloc _) ⟨w2.heap.size, 0, none⟩ 1 1 [.int .i64 126] rfl rfl (cell_one_new _ _ _) (by simp [Value.oneCell']) (by have := HLn.out; unfold maxLen; omega) (by have := HLn.out; omega) (by simp; omega) ?_; intro v' w3 hown3 hgrow _; obtain ⟨g', cap', rfl⟩ := ownsRow_succ hown3; obtain ⟨hown4, hp4, hbr4⟩ := row_put HF.out hgrow hown3; obtain ⟨b3, e3, hb3, hl3, hc3⟩ := row_first hown4; cases e3; skip; clear hc3 hown3 hgrow))
          (go_roundw; (case rel => exact ⟨8, by omega, rfl, (by rw [HE.out, List.length_append, Y.cells_snoc]; rw [HNN.out]; exact hown4), hp4, hbr4⟩); (case measure => simp [intOf]))
      · -- it is so
        have HE := Lib.hid (show Y.pre c 8 = L by rw [HSt.out]; show L ++ [] = L; rw [List.append_nil])
        clear HSt
        by_cases h1 : L.length = 1
        · obtain ⟨x, rfl⟩ := List.length_eq_one_iff.1 h1
          have hx2 : (x == 2) = false := by have := HN.out x (List.mem_singleton.2 rfl); simpa using this
          clear HN h1
          go_wp2_with (first
            | ((with_reducible refine wp_load_box rfl _ rfl ?_); refine ⟨_, _, rfl, HQ.out.2.2.2, ?_⟩)
            | ((with_reducible refine wpl_build rfl _ _ rfl ?_); refine ⟨_, _, rfl, Tryd.ask_cells c, ?_⟩)
            | (go_at_call 68; (with_reducible refine (asked_at A7.out _ HQ.out.2.1).mono ?_); rintro e w2 ⟨rfl, hb2⟩; have hown2 := owns_below HQ.out.2.2.1 hb2; have hp2 := HQ.out.2.2.2.below hb2; have hbr2 := below_next HQ.out.2.1 hb2; have q0 := (HQ.out.1.below hb2).cell 0; simp only [List.getElem?_toArray, List.getElem?_cons_zero] at q0; obtain ⟨ao2, cap2, e2, hcap2, hcm2, hao2⟩ := row_open1 hown2; cases e2; obtain ⟨b3, rfl, hb3, hl3, hc3⟩ := hao2 (Nat.succ_pos _); have hf0 : w2.cell? ⟨b3, 0, none⟩ = some (.int .i64 x) := hc3 0 _ rfl; clear hc3; have HF := Lib.hid (And.intro hown2 (And.intro hp2 hbr2)); have hw2s : w.heap.size + 1 ≤ w2.heap.size := by have := hp2.lt; omega))
          (go_roundw; (case rel => exact ⟨8, by omega, rfl, (by rw [HE.out]; exact HF.out.1), HF.out.2.1, HF.out.2.2⟩); (case measure => simp [intOf]))
        · obtain ⟨N, hN⟩ : ∃ N, L.length = N := ⟨_, rfl⟩
          have hN1 : ((N : Int) == 1) = false := by simp; omega
          have HNN := Lib.hid hN
          rw [hN] at HLn HQ ⊢
          clear h1 hN HN
          go_wp2_with (first
            | ((with_reducible refine wp_load_box rfl _ rfl ?_); refine ⟨_, _, rfl, HQ.out.2.2.2, ?_⟩)
            | ((with_reducible refine wpl_build rfl _ _ rfl ?_); refine ⟨_, _, rfl, Tryd.ask_cells c, ?_⟩)
            | (go_at_call 68; (with_reducible refine (asked_at A7.out _ HQ.out.2.1).mono ?_); rintro e w2 ⟨rfl, hb2⟩; have hown2 := owns_below HQ.out.2.2.1 hb2; have hp2 := HQ.out.2.2.2.below hb2; have hbr2 := below_next HQ.out.2.1 hb2; have q0 := (HQ.out.1.below hb2).cell 0; simp only [List.getElem?_toArray, List.getElem?_cons_zero] at q0; obtain ⟨ao2, cap2, e2, hcap2, hcm2, hao2⟩ := row_open1 hown2; cases e2; have HF := Lib.hid (And.intro hown2 (And.intro hp2 hbr2)); have hw2s : w.heap.size + 1 ≤ w2.heap.size := by have := hp2.lt; omega))
          (go_roundw; (case rel => exact ⟨8, by omega, rfl, (by rw [HE.out]; rw [HNN.out]; exact HF.out.1), HF.out.2.1, HF.out.2.2⟩); (case measure => simp [intOf]))
    · have HO := Lib.hid (And.intro hown hbr)
      clear hown hbr hp
      go_wp2
      go_ret
      exact ⟨_, rfl, by rw [HA.out, HL.out]; exact Y.owns_low HO.out.1 (by omega), HO.out.2⟩
set_option maxRecDepth 100000 in
set_option maxHeartbeats 4000000 in
theorem vall_arg (c : Nat → Int) (w : World) (hc : PosOk c) (hpl : Y.plain c = false) :
    Calls Tryd.prog 17 #[.agg (posC c)] w (Y.End (Y.all c) w) := by
  have A0 : Hid (Asked c 42 false w) := Lib.hid (fun W _ => by rw [← hpl]; exact vplain_any c W hc)
  have HE := Lib.hid (Y.all_arg c hpl)
  clear hc hpl
  have hp := PosAt.new w c
  have hb0 : Below w.heap.size w (w.alloc (.cells (posC c) 31)) := (Below.refl _ _).alloc (Nat.le_refl _) _
  obtain ⟨i0, hi, hz0, hz1, hz2⟩ := info_parts Tryd.info_Err
  go_enter Tryd.func17, Tryd.ntmps17
  go_wp2_with (go_at_call 34; refine (questions_any _).mono ?_; rintro e w1 ⟨rfl, hb1⟩)
  have HP1 := Lib.hid (hp.below hb1)
  have HB1 := Lib.hid (below_next hb0 hb1)
  clear hp hb0 hb1
  go_loopw [3, 7] (fun v i wr => i = .int .i64 0 ∧ v = .slice none 0 0 ∧ PosAt wr w.heap.size c ∧ Below w.heap.size w wr) (fun _ i _ => 8 - (intOf i).toNat)
  case atStart => exact ⟨rfl, rfl, HP1.out, HB1.out⟩
  case round =>
    obtain ⟨rfl, rfl, hp, hbr⟩ := hrel
    have hws := hbr.size
    have hown := World.ownsRow_nil wr (w.heap.size + 1) 42 1
    have HLn := Lib.hid (show ([] : List Int).length ≤ 8 by decide)
    have hix : ∀ w, (Instr.index 67 (.agg Tryd.qs) (.int .i64 0)).run Tryd.prog w = .ok (.agg #[.int .i64 2, .func (.func 42) #[] #[]]) w := fun _ => by kernel_rfl
    have HQ := Lib.hid (And.intro (RowAt.new wr #[.int .i64 2, .func (.func 42) #[] #[]] 66) (And.intro (hbr.alloc hws (.cells #[.int .i64 2, .func (.func 42) #[] #[]] 66)) (And.intro (hown.alloc (.cells #[.int .i64 2, .func (.func 42) #[] #[]] 66)) (hp.alloc (.cells #[.int .i64 2, .func (.func 42) #[] #[]] 66)))))
    clear hown hp hbr
    go_wp2_with (first
      | ((with_reducible refine wp_load_box rfl _ rfl ?_); refine ⟨_, _, rfl, HQ.out.2.2.2, ?_⟩)
      | ((with_reducible refine wpl_build rfl _ _ rfl ?_); refine ⟨_, _, rfl, Tryd.ask_cells c, ?_⟩)
      | (go_at_call 42; (with_reducible refine (asked_at A0.out _ HQ.out.2.1).mono ?_); rintro e w2 ⟨rfl, hb2⟩; have hown2 := owns_below HQ.out.2.2.1 hb2; have hp2 := HQ.out.2.2.2.below hb2; have hbr2 := below_next HQ.out.2.1 hb2; have q0 := (HQ.out.1.below hb2).cell 0; simp only [List.getElem?_toArray, List.getElem?_cons_zero] at q0; obtain ⟨ao2, cap2, e2, hcap2, hcm2, hao2⟩ := row_open1 hown2; cases e2; have HF := Lib.hid (And.intro hown2 (And.intro hp2 hbr2)); have hw2s : w.heap.size + 1 ≤ w2.heap.size := by have := hp2.lt; omega)
      | (at_builtin; refine wpList_append_own _ rfl _ _ 40 rfl (w.heap.size + 1) 42 i0 (.int .i64 0) 1 8 Tryd.underlying40 hi hz0 hz1 hz2 rfl (by decide) _ _ _ rfl (HF.out.1.alloc _) ⟨w2.heap.size, 0, none⟩ 1 1 [.int .i64 2] rfl rfl (cell_one_new _ _ _) (by simp [Value.oneCell']) (by have := HLn.out; unfold maxLen; omega) (by have := HLn.out; omega) (by simp; omega) ?_; intro v' w3 hown3 hgrow _; obtain ⟨g', cap', rfl⟩ := ownsRow_succ hown3; obtain ⟨hown4, hp4, hbr4⟩ := row_put HF.out hgrow hown3; obtain ⟨b3, e3, hb3, hl3, hc3⟩ := row_first hown4; cases e3; have hf0 : w3.cell? ⟨g', 0, none⟩ = some (.int .i64 2) := hc3 0 _ rfl; clear hc3 hown3 hgrow))
    go_ret
    exact ⟨_, rfl, by rw [HE.out]; exact Y.owns_low hown4 (by omega), hbr4⟩
theorem vall_any (c : Nat → Int) (w : World) (hc : PosOk c) (hT : Tb w) : Calls Tryd.prog 17 #[.agg (posC c)] w (Y.End (Y.all c) w) := by
  cases hpl : Y.plain c
  · exact vall_arg c w hc hpl
  · exact vall_plain c w hc hT hpl

end Go.Proofs.YtlphjjekamhnlaaDoor
