/- The document's castlings: castles. -/
import Derived.Test.YtldpejeodhkgdaaMvP
import Derived.Test.YtldpejeodhkgdaaMvE
import Derived.Test.YtldpejeodhkgdaaRef05
namespace Go.Proofs.Ytldpejeodhkgdaa
open Go.RowKit Go.Sort
attribute [local go_sem] Oper.semAt_some

namespace N
/-- What the document's castles answers, parted as it is. -/
def dside (f g : Nat) : Nat := if f < g then 0 else 1
def dcas (c : Nat → Int) (f g : Nat) : ByteArray :=
  if c (1 + f) = P.make (c 78) 6 then
    if c 0 = 1 then (if c (1 + g) = P.make (c 78) 4 then two f g else ⟨#[]⟩)
    else if f = home c + 4 ∧ 0 ≤ rk c (dside f g) ∧ rk c (dside f g) ≤ 7 ∧ (g : Int) = (home c : Int) + rk c (dside f g) then two f (home c + goal (dside f g)) else ⟨#[]⟩
  else ⟨#[]⟩
theorem king_iff (c : Nat → Int) (f : Nat) : king c f = true ↔ c (1 + f) = P.make (c 78) 6 := by unfold king; exact beq_iff_eq
theorem dcas_end {c : Nat → Int} {f g : Nat} (hf : f < 64) (hg : g < 64) (hne : f ≠ g) : CasEnd c f g (dcas c f g) := by
  unfold dcas
  split
  · rename_i hk
    split
    · rename_i h0
      split
      · rename_i h4
        exact .inl ⟨hf, hg, hne, .inl ⟨h0, (king_iff c f).2 hk, h4, rfl⟩⟩
      · rename_i h4
        refine .inr ⟨rfl, fun s' hs => ?_⟩
        rcases hs.2.2.2 with ⟨_, _, h, _⟩ | ⟨h, _⟩
        · exact h4 h
        · exact h h0
    · rename_i h0
      split
      · rename_i h
        obtain ⟨h1, h2, h3, h4⟩ := h
        refine .inl ⟨hf, hg, hne, .inr ⟨h0, dside f g, by unfold dside; split <;> omega, ?_, h1, h4, rfl⟩⟩
        unfold sideOk
        simp only [Bool.and_eq_true, decide_eq_true_eq, bne_iff_ne, ne_eq, beq_iff_eq]
        refine ⟨by rw [← h1]; exact (king_iff c f).2 hk, h2, by omega, by omega, ?_⟩
        unfold dside at h4 ⊢
        split
        · rename_i hlt
          rw [if_pos hlt] at h4
          simp
          omega
        · rename_i hlt
          rw [if_neg hlt] at h4
          simp
          omega
      · rename_i h
        refine .inr ⟨rfl, fun s' hs => h ?_⟩
        rcases hs.2.2.2 with ⟨h1, _⟩ | ⟨_, k, hk2, ho, h1, h2, _⟩
        · exact absurd h1 h0
        · have hb := side_rk ho
          have ho2 := ho
          unfold sideOk at ho2
          simp only [Bool.and_eq_true, decide_eq_true_eq, bne_iff_ne, ne_eq, beq_iff_eq] at ho2
          have h5 := ho2.2.2.2.2
          have hs : dside f g = k := by
            unfold dside
            rcases (show k = 0 ∨ k = 1 by omega) with rfl | rfl
            · have : 4 < rk c 0 := by simpa using h5
              rw [if_pos (by omega)]
            · have : ¬ 4 < rk c 1 := by
                intro h6
                rw [decide_eq_true h6] at h5
                exact absurd h5 (by decide)
              rw [if_neg (by omega)]
          rw [hs]
          exact ⟨h1, hb.1, by omega, h2⟩
  · rename_i hk
    refine .inr ⟨rfl, fun s' hs => hk ?_⟩
    rcases hs.2.2.2 with ⟨_, h, _⟩ | ⟨_, k, _, ho, h1, _⟩
    · exact (king_iff c f).1 h
    · unfold sideOk at ho
      simp only [Bool.and_eq_true] at ho
      rw [h1]
      exact (king_iff c _).1 ho.1
theorem casEnd_one {c : Nat → Int} {f g : Nat} {s s' : ByteArray} (h : CasEnd c f g s) (h' : CasEnd c f g s') : s = s' := by
  rcases h with h | ⟨rfl, h⟩
  · rcases h' with h' | ⟨rfl, h'⟩
    · exact cas_fun h h'
    · exact absurd h (h' _)
  · rcases h' with h' | ⟨rfl, h'⟩
    · exact absurd h' (h _)
    · rfl
theorem dcas_eq {c : Nat → Int} {f g : Nat} (hk : known c) (hf : f < 64) (hg : g < 64) (hne : f ≠ g) : dcas c f g = cas c f g := casEnd_one (dcas_end hf hg hne) (cas_end hk hf hg hne)
theorem dcas_val {c : Nat → Int} {f g t : Nat} (ht : c 78 = (t : Int)) : dcas c f g = if c (1 + f) = P.make (t : Int) 6 then (if c 0 = 1 then (if c (1 + g) = P.make (t : Int) 4 then two f g else ⟨#[]⟩)
    else if f = 56 * t + 4 ∧ 0 ≤ c (79 + 2 * t + dside f g) ∧ c (79 + 2 * t + dside f g) ≤ 7 ∧ (g : Int) = ((56 * t : Nat) : Int) + c (79 + 2 * t + dside f g) then two f (56 * t + goal (dside f g)) else ⟨#[]⟩) else ⟨#[]⟩ := by
  have hh : home c = 56 * t := by unfold home; rw [ht, Int.toNat_natCast]
  have hr : rk c (dside f g) = c (79 + 2 * t + dside f g) := by unfold rk; rw [ht, Int.toNat_natCast]
  unfold dcas
  rw [hh, hr, ht]

theorem dcas_t0 {c : Nat → Int} {f g : Nat} (ht : c 78 = 0) : dcas c f g = if c (1 + f) = 6 then (if c 0 = 1 then (if c (1 + g) = 4 then two f g else ⟨#[]⟩)
    else if f = 4 ∧ 0 ≤ c (79 + dside f g) ∧ c (79 + dside f g) ≤ 7 ∧ (g : Int) = 0 + c (79 + dside f g) then two f (0 + goal (dside f g)) else ⟨#[]⟩) else ⟨#[]⟩ := dcas_val (t := 0) ht

theorem dcas_t1 {c : Nat → Int} {f g : Nat} (ht : c 78 = 1) : dcas c f g = if c (1 + f) = 14 then (if c 0 = 1 then (if c (1 + g) = 12 then two f g else ⟨#[]⟩)
    else if f = 60 ∧ 0 ≤ c (81 + dside f g) ∧ c (81 + dside f g) ≤ 7 ∧ (g : Int) = 56 + c (81 + dside f g) then two f (56 + goal (dside f g)) else ⟨#[]⟩) else ⟨#[]⟩ := dcas_val (t := 1) ht

end N

set_option maxRecDepth 100000 in
set_option maxHeartbeats 4000000 in
theorem d11castles_0 (c : Nat → Int) (f g : Nat) (w : World) (hc : PosOk c) (ht : c 78 = 0) (hf : f < 64) (hg : g < 64) :
    Calls Try.prog 25 #[.agg (posC c), .agg (movC f g 0 0 true)] w fun e w' => e = .returned (.string (N.dcas c f g)) ∧ Below w.heap.size w w' := by
  have hP := PMv.start w c (movC f g 0 0 true)
  have c0 := hP.p.cell (i := 0) (by decide)
  have c78 := hP.p.cell (i := 78) (by decide)
  have r0 := hP.p.cell (i := 79) (by decide)
  have r1 := hP.p.cell (i := 80) (by decide)
  have bf := hP.p.bd hf
  have bg := hP.p.bd hg
  have m0 := hP.m.cell 0
  have m1 := hP.m.cell 1
  rw [show pk 0 = .u8 from rfl] at c0
  rw [show pk 78 = .u8 from rfl, ht] at c78
  rw [show pk 79 = .i8 from rfl] at r0
  rw [show pk 80 = .i8 from rfl] at r1
  rw [show (movC f g 0 0 true)[0]? = some (.int .i8 (f : Int)) from rfl] at m0
  rw [show (movC f g 0 0 true)[1]? = some (.int .i8 (g : Int)) from rfl] at m1
  have lb := hP.m.lt
  have lp := hP.p.lt
  have H0 := Lib.hid hP
  have wf := i8_i64 hf
  have wg := i8_i64 hg
  clear hP
  have H6 : Hid (∀ W, Calls Try.prog 24 #[.int .u8 0, .int .u8 6] W fun e w' => e = .returned (.int .u8 6) ∧ Below W.heap.size W w') := Lib.hid (fun W => r5make_walk 0 6 W (by decide) (by decide))
  have H4 : Hid (∀ W, Calls Try.prog 24 #[.int .u8 0, .int .u8 4] W fun e w' => e = .returned (.int .u8 4) ∧ Below W.heap.size W w') := Lib.hid (fun W => r5make_walk 0 4 W (by decide) (by decide))
  go_enter Try.func25, Try.ntmps25
  go_upto_region 2 with fail
  refine region_below (by kernel_rfl) (by kernel_rfl) ?_
  try simp only [Act.put]
  repeat (go_big_quiet_step (first | (go_at_call 24; (with_reducible exact quiet_below (H6.out _)))))
  refine wpQuiet_nil ?_
  intro w2 hb
  have H2 := Lib.hid (H0.out.next hb)
  clear hb
  clear c0 c78 r0 r1 bf bg m0 m1 lb lp
  have c0 := H2.out.p.cell (i := 0) (by decide)
  have c78 := H2.out.p.cell (i := 78) (by decide)
  have r0 := H2.out.p.cell (i := 79) (by decide)
  have r1 := H2.out.p.cell (i := 80) (by decide)
  have bf := H2.out.p.bd hf
  have bg := H2.out.p.bd hg
  have m0 := H2.out.m.cell 0
  have m1 := H2.out.m.cell 1
  rw [show pk 0 = .u8 from rfl] at c0
  rw [show pk 78 = .u8 from rfl, ht] at c78
  rw [show pk 79 = .i8 from rfl] at r0
  rw [show pk 80 = .i8 from rfl] at r1
  rw [show (movC f g 0 0 true)[0]? = some (.int .i8 (f : Int)) from rfl] at m0
  rw [show (movC f g 0 0 true)[1]? = some (.int .i8 (g : Int)) from rfl] at m1
  have lb := H2.out.m.lt
  have lp := H2.out.p.lt
  by_cases hA : c (1 + f) = 6
  · have kA : (c (1 + f) != 6) = false := by simpa using hA
    by_cases hB : c 0 = 1
    · have kB : (c 0 == 1) = true := by simpa using hB
      go_upto_region 5 with fail
      refine region_below (by kernel_rfl) (by kernel_rfl) ?_
      try simp only [Act.put]
      repeat (go_big_quiet_step (first | (go_at_call 24; (with_reducible exact quiet_below (H4.out _)))))
      refine wpQuiet_nil ?_
      intro w5 hb
      have H5 := Lib.hid (H2.out.next hb)
      clear hb
      clear c0 c78 r0 r1 bf bg m0 m1 lb lp
      have c0 := H5.out.p.cell (i := 0) (by decide)
      have c78 := H5.out.p.cell (i := 78) (by decide)
      have r0 := H5.out.p.cell (i := 79) (by decide)
      have r1 := H5.out.p.cell (i := 80) (by decide)
      have bf := H5.out.p.bd hf
      have bg := H5.out.p.bd hg
      have m0 := H5.out.m.cell 0
      have m1 := H5.out.m.cell 1
      rw [show pk 0 = .u8 from rfl] at c0
      rw [show pk 78 = .u8 from rfl, ht] at c78
      rw [show pk 79 = .i8 from rfl] at r0
      rw [show pk 80 = .i8 from rfl] at r1
      rw [show (movC f g 0 0 true)[0]? = some (.int .i8 (f : Int)) from rfl] at m0
      rw [show (movC f g 0 0 true)[1]? = some (.int .i8 (g : Int)) from rfl] at m1
      have lb := H5.out.m.lt
      have lp := H5.out.p.lt
      by_cases hC : c (1 + g) = 4
      · have kC : (c (1 + g) != 4) = false := by simpa using hC
        have E := Lib.hid (show N.dcas c f g = N.two f g by rw [N.dcas_t0 ht, if_pos hA, if_pos hB, if_pos hC])
        have HT : Hid (∀ W, Calls Try.prog 30 #[.int .i8 (f : Int), .int .i8 (g : Int)] W fun e w' => e = .returned (.string (N.two f g)) ∧ Below W.heap.size W w') := Lib.hid (fun W => d11two_any f g W hf hg)
        clear hA hB hC hf hg hc
        go_wp2_with (first | (go_at_call 30; (with_reducible refine (HT.out _).mono ?_); rintro e w9 ⟨rfl, hb9⟩; have H9 := Lib.hid (H5.out.next hb9); clear hb9))
        go_ret
        exact ⟨by rw [E.out]; rfl, H9.out.below⟩
      · have kC : (c (1 + g) != 4) = true := by simpa using hC
        have E := Lib.hid (show N.dcas c f g = ⟨#[]⟩ by rw [N.dcas_t0 ht, if_pos hA, if_pos hB, if_neg hC])
        clear hA hB hC hf hg hc
        go_wp2
        go_ret
        exact ⟨by rw [E.out]; rfl, H5.out.below⟩
    · have kB : (c 0 == 1) = false := by simpa using hB
      by_cases hlt : f < g
      · have hd : N.dside f g = 0 := if_pos hlt
        have dlt : decide (f < g) = true := by simp; omega
        have hrb := bounds_i8 (hc 79 (by decide))
        have ww : IntKind.i64.wrap (c 79) = c 79 := by rw [IntKind.wrap_i64]; omega
        clear hrb
        by_cases h1 : f = 4
        · have q1 : ((f : Int) != 4) = false := by simp; omega
          by_cases h2 : 0 ≤ c 79
          · have q2 : decide (c 79 < 0) = false := by simp; omega
            by_cases h3 : c 79 ≤ 7
            · have q3 : decide (7 < c 79) = false := by simp; omega
              have wh : IntKind.i64.wrap (0 + c 79) = 0 + c 79 := by rw [IntKind.wrap_i64]; omega
              by_cases h4 : (g : Int) = 0 + c 79
              · have q4 : ((g : Int) != c 79) = false := by simp; omega
                have E := Lib.hid (show N.dcas c f g = N.two f 6 by rw [N.dcas_t0 ht, if_pos hA, if_neg hB, hd, if_pos ⟨h1, h2, h3, h4⟩]; rfl)
                have HT : Hid (∀ W, Calls Try.prog 30 #[.int .i8 (f : Int), .int .i8 6] W fun e w' => e = .returned (.string (N.two f 6)) ∧ Below W.heap.size W w') := Lib.hid (fun W => d11two_any f 6 W hf (by decide))
                clear h1 h2 h3 h4 hA hB hlt hd hf hg hc
                go_wp2_with (first | (go_at_call 30; (with_reducible refine (HT.out _).mono ?_); rintro e w9 ⟨rfl, hb9⟩; have H9 := Lib.hid (H2.out.next hb9); clear hb9))
                go_ret
                exact ⟨by rw [E.out]; rfl, H9.out.below⟩
              · have q4 : ((g : Int) != c 79) = true := by simp; omega
                have E := Lib.hid (show N.dcas c f g = ⟨#[]⟩ by rw [N.dcas_t0 ht, if_pos hA, if_neg hB, hd, if_neg (fun h => h4 h.2.2.2)])
                clear h1 h2 h3 h4 hA hB hlt hd hf hg hc
                go_wp2
                go_ret
                exact ⟨by rw [E.out]; rfl, H2.out.below⟩
            · have q3 : decide (7 < c 79) = true := by simp; omega
              have E := Lib.hid (show N.dcas c f g = ⟨#[]⟩ by rw [N.dcas_t0 ht, if_pos hA, if_neg hB, hd, if_neg (fun h => h3 h.2.2.1)])
              clear h1 h2 h3 hA hB hlt hd hf hg hc
              go_wp2
              go_ret
              exact ⟨by rw [E.out]; rfl, H2.out.below⟩
          · have q2 : decide (c 79 < 0) = true := by simp; omega
            have E := Lib.hid (show N.dcas c f g = ⟨#[]⟩ by rw [N.dcas_t0 ht, if_pos hA, if_neg hB, hd, if_neg (fun h => h2 h.2.1)])
            clear h1 h2 hA hB hlt hd hf hg hc
            go_wp2
            go_ret
            exact ⟨by rw [E.out]; rfl, H2.out.below⟩
        · have q1 : ((f : Int) != 4) = true := by simp; omega
          have E := Lib.hid (show N.dcas c f g = ⟨#[]⟩ by rw [N.dcas_t0 ht, if_pos hA, if_neg hB, hd, if_neg (fun h => h1 h.1)])
          clear h1 hA hB hlt hd hf hg hc
          go_wp2
          go_ret
          exact ⟨by rw [E.out]; rfl, H2.out.below⟩
      · have hd : N.dside f g = 1 := if_neg hlt
        have dlt : decide (f < g) = false := by simp; omega
        have hrb := bounds_i8 (hc 80 (by decide))
        have ww : IntKind.i64.wrap (c 80) = c 80 := by rw [IntKind.wrap_i64]; omega
        clear hrb
        by_cases h1 : f = 4
        · have q1 : ((f : Int) != 4) = false := by simp; omega
          by_cases h2 : 0 ≤ c 80
          · have q2 : decide (c 80 < 0) = false := by simp; omega
            by_cases h3 : c 80 ≤ 7
            · have q3 : decide (7 < c 80) = false := by simp; omega
              have wh : IntKind.i64.wrap (0 + c 80) = 0 + c 80 := by rw [IntKind.wrap_i64]; omega
              by_cases h4 : (g : Int) = 0 + c 80
              · have q4 : ((g : Int) != c 80) = false := by simp; omega
                have E := Lib.hid (show N.dcas c f g = N.two f 2 by rw [N.dcas_t0 ht, if_pos hA, if_neg hB, hd, if_pos ⟨h1, h2, h3, h4⟩]; rfl)
                have HT : Hid (∀ W, Calls Try.prog 30 #[.int .i8 (f : Int), .int .i8 2] W fun e w' => e = .returned (.string (N.two f 2)) ∧ Below W.heap.size W w') := Lib.hid (fun W => d11two_any f 2 W hf (by decide))
                clear h1 h2 h3 h4 hA hB hlt hd hf hg hc
                go_wp2_with (first | (go_at_call 30; (with_reducible refine (HT.out _).mono ?_); rintro e w9 ⟨rfl, hb9⟩; have H9 := Lib.hid (H2.out.next hb9); clear hb9))
                go_ret
                exact ⟨by rw [E.out]; rfl, H9.out.below⟩
              · have q4 : ((g : Int) != c 80) = true := by simp; omega
                have E := Lib.hid (show N.dcas c f g = ⟨#[]⟩ by rw [N.dcas_t0 ht, if_pos hA, if_neg hB, hd, if_neg (fun h => h4 h.2.2.2)])
                clear h1 h2 h3 h4 hA hB hlt hd hf hg hc
                go_wp2
                go_ret
                exact ⟨by rw [E.out]; rfl, H2.out.below⟩
            · have q3 : decide (7 < c 80) = true := by simp; omega
              have E := Lib.hid (show N.dcas c f g = ⟨#[]⟩ by rw [N.dcas_t0 ht, if_pos hA, if_neg hB, hd, if_neg (fun h => h3 h.2.2.1)])
              clear h1 h2 h3 hA hB hlt hd hf hg hc
              go_wp2
              go_ret
              exact ⟨by rw [E.out]; rfl, H2.out.below⟩
          · have q2 : decide (c 80 < 0) = true := by simp; omega
            have E := Lib.hid (show N.dcas c f g = ⟨#[]⟩ by rw [N.dcas_t0 ht, if_pos hA, if_neg hB, hd, if_neg (fun h => h2 h.2.1)])
            clear h1 h2 hA hB hlt hd hf hg hc
            go_wp2
            go_ret
            exact ⟨by rw [E.out]; rfl, H2.out.below⟩
        · have q1 : ((f : Int) != 4) = true := by simp; omega
          have E := Lib.hid (show N.dcas c f g = ⟨#[]⟩ by rw [N.dcas_t0 ht, if_pos hA, if_neg hB, hd, if_neg (fun h => h1 h.1)])
          clear h1 hA hB hlt hd hf hg hc
          go_wp2
          go_ret
          exact ⟨by rw [E.out]; rfl, H2.out.below⟩
  · have kA : (c (1 + f) != 6) = true := by simpa using hA
    have E := Lib.hid (show N.dcas c f g = ⟨#[]⟩ by rw [N.dcas_t0 ht, if_neg hA])
    clear hA hf hg hc
    go_wp2
    go_ret
    exact ⟨by rw [E.out]; rfl, H2.out.below⟩

set_option maxRecDepth 100000 in
set_option maxHeartbeats 4000000 in
theorem d11castles_1 (c : Nat → Int) (f g : Nat) (w : World) (hc : PosOk c) (ht : c 78 = 1) (hf : f < 64) (hg : g < 64) :
    Calls Try.prog 25 #[.agg (posC c), .agg (movC f g 0 0 true)] w fun e w' => e = .returned (.string (N.dcas c f g)) ∧ Below w.heap.size w w' := by
  have hP := PMv.start w c (movC f g 0 0 true)
  have c0 := hP.p.cell (i := 0) (by decide)
  have c78 := hP.p.cell (i := 78) (by decide)
  have r0 := hP.p.cell (i := 81) (by decide)
  have r1 := hP.p.cell (i := 82) (by decide)
  have bf := hP.p.bd hf
  have bg := hP.p.bd hg
  have m0 := hP.m.cell 0
  have m1 := hP.m.cell 1
  rw [show pk 0 = .u8 from rfl] at c0
  rw [show pk 78 = .u8 from rfl, ht] at c78
  rw [show pk 81 = .i8 from rfl] at r0
  rw [show pk 82 = .i8 from rfl] at r1
  rw [show (movC f g 0 0 true)[0]? = some (.int .i8 (f : Int)) from rfl] at m0
  rw [show (movC f g 0 0 true)[1]? = some (.int .i8 (g : Int)) from rfl] at m1
  have lb := hP.m.lt
  have lp := hP.p.lt
  have H0 := Lib.hid hP
  have wf := i8_i64 hf
  have wg := i8_i64 hg
  clear hP
  have H6 : Hid (∀ W, Calls Try.prog 24 #[.int .u8 1, .int .u8 6] W fun e w' => e = .returned (.int .u8 14) ∧ Below W.heap.size W w') := Lib.hid (fun W => r5make_walk 1 6 W (by decide) (by decide))
  have H4 : Hid (∀ W, Calls Try.prog 24 #[.int .u8 1, .int .u8 4] W fun e w' => e = .returned (.int .u8 12) ∧ Below W.heap.size W w') := Lib.hid (fun W => r5make_walk 1 4 W (by decide) (by decide))
  go_enter Try.func25, Try.ntmps25
  go_upto_region 2 with fail
  refine region_below (by kernel_rfl) (by kernel_rfl) ?_
  try simp only [Act.put]
  repeat (go_big_quiet_step (first | (go_at_call 24; (with_reducible exact quiet_below (H6.out _)))))
  refine wpQuiet_nil ?_
  intro w2 hb
  have H2 := Lib.hid (H0.out.next hb)
  clear hb
  clear c0 c78 r0 r1 bf bg m0 m1 lb lp
  have c0 := H2.out.p.cell (i := 0) (by decide)
  have c78 := H2.out.p.cell (i := 78) (by decide)
  have r0 := H2.out.p.cell (i := 81) (by decide)
  have r1 := H2.out.p.cell (i := 82) (by decide)
  have bf := H2.out.p.bd hf
  have bg := H2.out.p.bd hg
  have m0 := H2.out.m.cell 0
  have m1 := H2.out.m.cell 1
  rw [show pk 0 = .u8 from rfl] at c0
  rw [show pk 78 = .u8 from rfl, ht] at c78
  rw [show pk 81 = .i8 from rfl] at r0
  rw [show pk 82 = .i8 from rfl] at r1
  rw [show (movC f g 0 0 true)[0]? = some (.int .i8 (f : Int)) from rfl] at m0
  rw [show (movC f g 0 0 true)[1]? = some (.int .i8 (g : Int)) from rfl] at m1
  have lb := H2.out.m.lt
  have lp := H2.out.p.lt
  by_cases hA : c (1 + f) = 14
  · have kA : (c (1 + f) != 14) = false := by simpa using hA
    by_cases hB : c 0 = 1
    · have kB : (c 0 == 1) = true := by simpa using hB
      go_upto_region 5 with fail
      refine region_below (by kernel_rfl) (by kernel_rfl) ?_
      try simp only [Act.put]
      repeat (go_big_quiet_step (first | (go_at_call 24; (with_reducible exact quiet_below (H4.out _)))))
      refine wpQuiet_nil ?_
      intro w5 hb
      have H5 := Lib.hid (H2.out.next hb)
      clear hb
      clear c0 c78 r0 r1 bf bg m0 m1 lb lp
      have c0 := H5.out.p.cell (i := 0) (by decide)
      have c78 := H5.out.p.cell (i := 78) (by decide)
      have r0 := H5.out.p.cell (i := 81) (by decide)
      have r1 := H5.out.p.cell (i := 82) (by decide)
      have bf := H5.out.p.bd hf
      have bg := H5.out.p.bd hg
      have m0 := H5.out.m.cell 0
      have m1 := H5.out.m.cell 1
      rw [show pk 0 = .u8 from rfl] at c0
      rw [show pk 78 = .u8 from rfl, ht] at c78
      rw [show pk 81 = .i8 from rfl] at r0
      rw [show pk 82 = .i8 from rfl] at r1
      rw [show (movC f g 0 0 true)[0]? = some (.int .i8 (f : Int)) from rfl] at m0
      rw [show (movC f g 0 0 true)[1]? = some (.int .i8 (g : Int)) from rfl] at m1
      have lb := H5.out.m.lt
      have lp := H5.out.p.lt
      by_cases hC : c (1 + g) = 12
      · have kC : (c (1 + g) != 12) = false := by simpa using hC
        have E := Lib.hid (show N.dcas c f g = N.two f g by rw [N.dcas_t1 ht, if_pos hA, if_pos hB, if_pos hC])
        have HT : Hid (∀ W, Calls Try.prog 30 #[.int .i8 (f : Int), .int .i8 (g : Int)] W fun e w' => e = .returned (.string (N.two f g)) ∧ Below W.heap.size W w') := Lib.hid (fun W => d11two_any f g W hf hg)
        clear hA hB hC hf hg hc
        go_wp2_with (first | (go_at_call 30; (with_reducible refine (HT.out _).mono ?_); rintro e w9 ⟨rfl, hb9⟩; have H9 := Lib.hid (H5.out.next hb9); clear hb9))
        go_ret
        exact ⟨by rw [E.out]; rfl, H9.out.below⟩
      · have kC : (c (1 + g) != 12) = true := by simpa using hC
        have E := Lib.hid (show N.dcas c f g = ⟨#[]⟩ by rw [N.dcas_t1 ht, if_pos hA, if_pos hB, if_neg hC])
        clear hA hB hC hf hg hc
        go_wp2
        go_ret
        exact ⟨by rw [E.out]; rfl, H5.out.below⟩
    · have kB : (c 0 == 1) = false := by simpa using hB
      by_cases hlt : f < g
      · have hd : N.dside f g = 0 := if_pos hlt
        have dlt : decide (f < g) = true := by simp; omega
        have hrb := bounds_i8 (hc 81 (by decide))
        have ww : IntKind.i64.wrap (c 81) = c 81 := by rw [IntKind.wrap_i64]; omega
        clear hrb
        by_cases h1 : f = 60
        · have q1 : ((f : Int) != 60) = false := by simp; omega
          by_cases h2 : 0 ≤ c 81
          · have q2 : decide (c 81 < 0) = false := by simp; omega
            by_cases h3 : c 81 ≤ 7
            · have q3 : decide (7 < c 81) = false := by simp; omega
              have wh : IntKind.i64.wrap (56 + c 81) = 56 + c 81 := by rw [IntKind.wrap_i64]; omega
              by_cases h4 : (g : Int) = 56 + c 81
              · have q4 : ((g : Int) != 56 + c 81) = false := by simp; omega
                have E := Lib.hid (show N.dcas c f g = N.two f 62 by rw [N.dcas_t1 ht, if_pos hA, if_neg hB, hd, if_pos ⟨h1, h2, h3, h4⟩]; rfl)
                have HT : Hid (∀ W, Calls Try.prog 30 #[.int .i8 (f : Int), .int .i8 62] W fun e w' => e = .returned (.string (N.two f 62)) ∧ Below W.heap.size W w') := Lib.hid (fun W => d11two_any f 62 W hf (by decide))
                clear h1 h2 h3 h4 hA hB hlt hd hf hg hc
                go_wp2_with (first | (go_at_call 30; (with_reducible refine (HT.out _).mono ?_); rintro e w9 ⟨rfl, hb9⟩; have H9 := Lib.hid (H2.out.next hb9); clear hb9))
                go_ret
                exact ⟨by rw [E.out]; rfl, H9.out.below⟩
              · have q4 : ((g : Int) != 56 + c 81) = true := by simp; omega
                have E := Lib.hid (show N.dcas c f g = ⟨#[]⟩ by rw [N.dcas_t1 ht, if_pos hA, if_neg hB, hd, if_neg (fun h => h4 h.2.2.2)])
                clear h1 h2 h3 h4 hA hB hlt hd hf hg hc
                go_wp2
                go_ret
                exact ⟨by rw [E.out]; rfl, H2.out.below⟩
            · have q3 : decide (7 < c 81) = true := by simp; omega
              have E := Lib.hid (show N.dcas c f g = ⟨#[]⟩ by rw [N.dcas_t1 ht, if_pos hA, if_neg hB, hd, if_neg (fun h => h3 h.2.2.1)])
              clear h1 h2 h3 hA hB hlt hd hf hg hc
              go_wp2
              go_ret
              exact ⟨by rw [E.out]; rfl, H2.out.below⟩
          · have q2 : decide (c 81 < 0) = true := by simp; omega
            have E := Lib.hid (show N.dcas c f g = ⟨#[]⟩ by rw [N.dcas_t1 ht, if_pos hA, if_neg hB, hd, if_neg (fun h => h2 h.2.1)])
            clear h1 h2 hA hB hlt hd hf hg hc
            go_wp2
            go_ret
            exact ⟨by rw [E.out]; rfl, H2.out.below⟩
        · have q1 : ((f : Int) != 60) = true := by simp; omega
          have E := Lib.hid (show N.dcas c f g = ⟨#[]⟩ by rw [N.dcas_t1 ht, if_pos hA, if_neg hB, hd, if_neg (fun h => h1 h.1)])
          clear h1 hA hB hlt hd hf hg hc
          go_wp2
          go_ret
          exact ⟨by rw [E.out]; rfl, H2.out.below⟩
      · have hd : N.dside f g = 1 := if_neg hlt
        have dlt : decide (f < g) = false := by simp; omega
        have hrb := bounds_i8 (hc 82 (by decide))
        have ww : IntKind.i64.wrap (c 82) = c 82 := by rw [IntKind.wrap_i64]; omega
        clear hrb
        by_cases h1 : f = 60
        · have q1 : ((f : Int) != 60) = false := by simp; omega
          by_cases h2 : 0 ≤ c 82
          · have q2 : decide (c 82 < 0) = false := by simp; omega
            by_cases h3 : c 82 ≤ 7
            · have q3 : decide (7 < c 82) = false := by simp; omega
              have wh : IntKind.i64.wrap (56 + c 82) = 56 + c 82 := by rw [IntKind.wrap_i64]; omega
              by_cases h4 : (g : Int) = 56 + c 82
              · have q4 : ((g : Int) != 56 + c 82) = false := by simp; omega
                have E := Lib.hid (show N.dcas c f g = N.two f 58 by rw [N.dcas_t1 ht, if_pos hA, if_neg hB, hd, if_pos ⟨h1, h2, h3, h4⟩]; rfl)
                have HT : Hid (∀ W, Calls Try.prog 30 #[.int .i8 (f : Int), .int .i8 58] W fun e w' => e = .returned (.string (N.two f 58)) ∧ Below W.heap.size W w') := Lib.hid (fun W => d11two_any f 58 W hf (by decide))
                clear h1 h2 h3 h4 hA hB hlt hd hf hg hc
                go_wp2_with (first | (go_at_call 30; (with_reducible refine (HT.out _).mono ?_); rintro e w9 ⟨rfl, hb9⟩; have H9 := Lib.hid (H2.out.next hb9); clear hb9))
                go_ret
                exact ⟨by rw [E.out]; rfl, H9.out.below⟩
              · have q4 : ((g : Int) != 56 + c 82) = true := by simp; omega
                have E := Lib.hid (show N.dcas c f g = ⟨#[]⟩ by rw [N.dcas_t1 ht, if_pos hA, if_neg hB, hd, if_neg (fun h => h4 h.2.2.2)])
                clear h1 h2 h3 h4 hA hB hlt hd hf hg hc
                go_wp2
                go_ret
                exact ⟨by rw [E.out]; rfl, H2.out.below⟩
            · have q3 : decide (7 < c 82) = true := by simp; omega
              have E := Lib.hid (show N.dcas c f g = ⟨#[]⟩ by rw [N.dcas_t1 ht, if_pos hA, if_neg hB, hd, if_neg (fun h => h3 h.2.2.1)])
              clear h1 h2 h3 hA hB hlt hd hf hg hc
              go_wp2
              go_ret
              exact ⟨by rw [E.out]; rfl, H2.out.below⟩
          · have q2 : decide (c 82 < 0) = true := by simp; omega
            have E := Lib.hid (show N.dcas c f g = ⟨#[]⟩ by rw [N.dcas_t1 ht, if_pos hA, if_neg hB, hd, if_neg (fun h => h2 h.2.1)])
            clear h1 h2 hA hB hlt hd hf hg hc
            go_wp2
            go_ret
            exact ⟨by rw [E.out]; rfl, H2.out.below⟩
        · have q1 : ((f : Int) != 60) = true := by simp; omega
          have E := Lib.hid (show N.dcas c f g = ⟨#[]⟩ by rw [N.dcas_t1 ht, if_pos hA, if_neg hB, hd, if_neg (fun h => h1 h.1)])
          clear h1 hA hB hlt hd hf hg hc
          go_wp2
          go_ret
          exact ⟨by rw [E.out]; rfl, H2.out.below⟩
  · have kA : (c (1 + f) != 14) = true := by simpa using hA
    have E := Lib.hid (show N.dcas c f g = ⟨#[]⟩ by rw [N.dcas_t1 ht, if_neg hA])
    clear hA hf hg hc
    go_wp2
    go_ret
    exact ⟨by rw [E.out]; rfl, H2.out.below⟩

theorem d11castles_any (c : Nat → Int) (f g : Nat) (w : World) (hc : PosOk c) (hk : N.known c) (hf : f < 64) (hg : g < 64) (hne : f ≠ g) :
    Calls Try.prog 25 #[.agg (posC c), .agg (movC f g 0 0 true)] w fun e w' => e = .returned (.string (N.cas c f g)) ∧ Below w.heap.size w w' := by
  rw [← N.dcas_eq hk hf hg hne]
  rcases (show c 78 = 0 ∨ c 78 = 1 by have := hk.2; omega) with h | h
  · exact d11castles_0 c f g w hc h hf hg
  · exact d11castles_1 c f g w hc h hf hg
end Go.Proofs.Ytldpejeodhkgdaa
