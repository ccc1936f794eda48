/- Several texts in one: Law16c. -/
import Derived.Deep.CutRange
import Derived.Test.YtgkndhpolcnjbaaGreatDoorZb4
import Derived.Test.YtgkndhpolcnjbaaGreatDoorZb9
import Derived.Test.YtgkndhpolcnjbaaGreatDoorZa4
namespace Go.Proofs.YtgkndhpolcnjbaaGreatDoor
open Go.RowKit Go.Sort
namespace A
/-- The law's near: of a square and of To, ranks and files as numbers of their own. -/
def nearB (s G a g b h : Int) : Bool := (s != G) && (decide (a - g ≤ 1) && (decide (g - a ≤ 1) && (decide (b - h ≤ 1) && decide (h - b ≤ 1))))
theorem near_of (s G : Nat) (_hs : s < 64) (_hG : G < 64) : nearB (s : Int) (G : Int) ((s : Int) % 8) ((G : Int) % 8) ((s : Int) / 8) ((G : Int) / 8) = D.beside (s : Int) (G : Int) := by
  unfold nearB D.beside D.abs
  rw [Bool.eq_iff_iff]
  simp only [Bool.and_eq_true, decide_eq_true_eq, bne_iff_ne, ne_eq]
  constructor
  · rintro ⟨h1, h2, h3, h4, h5⟩
    refine ⟨h1, ?_, ?_⟩
    · split <;> omega
    · split <;> omega
  · rintro ⟨h1, h2, h3⟩
    refine ⟨h1, ?_, ?_, ?_, ?_⟩
    · split at h3 <;> omega
    · split at h3 <;> omega
    · split at h2 <;> omega
    · split at h2 <;> omega
def namedB (v F G t K R s x : Int) (ok nr : Bool) : Bool := (s == F) || ((s == G) || ((s == t) || ((ok && ((s == K) || (s == R))) || ((v == 3) && (decide (0 ≤ t) && (nr && (x != 1)))))))
theorem goals_form (c : Nat → Int) (s : Int) : ∃ K R ok, T.goalsV c s = .tuple #[.int .i64 K, .int .i64 R, .bool ok] := by
  unfold T.goalsV
  split
  · exact ⟨_, _, _, rfl⟩
  · exact ⟨_, _, _, rfl⟩
/-- What isn't named is as it was. -/
theorem not_named (c : Nat → Int) (F G : Nat) (p d : Int) (ca : Bool) (t K R : Int) (ok : Bool) (s : Nat) (hs : s < 64) (hf : Fine c F G p d ca t) (hgo : T.goalsV c (T.side c F G ca) = .tuple #[.int .i64 K, .int .i64 R, .bool ok])
    (h : namedB (c 0) F G t K R (s : Int) (c (1 + s) % 8) ok (nearB (s : Int) (G : Int) ((s : Int) % 8) ((G : Int) % 8) ((s : Int) / 8) ((G : Int) / 8)) = false) : after c ((F : Int), (G : Int), p, d, ca) t (1 + s) = c (1 + s) := by
  rw [near_of s G hs hf.G64] at h
  unfold namedB at h
  simp only [Bool.or_eq_false_iff, Bool.and_eq_false_iff, beq_eq_false_iff_ne, ne_eq, decide_eq_false_iff_not, bne_eq_false_iff_eq] at h
  obtain ⟨h1, h2, h3, h4, h5⟩ := h
  refine squares c F G p d ca t s hs hf.G64 (pos_bd hf.ok) (by omega) (by omega) h3 (fun e => ?_) (fun ⟨k1, k2, k3, k4⟩ => ?_)
  · subst e
    obtain ⟨_, kgn, rgn, _, _, hgo', ek, er⟩ := hf.cast rfl
    rw [hgo'] at hgo
    simp only [Value.tuple.injEq, Array.mk.injEq, List.cons.injEq, Value.int.injEq, Value.bool.injEq, true_and, and_true] at hgo
    obtain ⟨e1, e2, e3⟩ := hgo
    rw [ek, er]
    rcases h4 with h4 | h4
    · rw [h4] at e3; cases e3
    · constructor
      · intro e; exact h4.1 (by omega)
      · intro e; exact h4.2 (by omega)
  · rcases h5 with h5 | h5 | h5 | h5
    · exact h5 k1
    · exact h5 k2
    · rw [h5] at k3; cases k3
    · exact k4 h5
theorem w_sub (a b : Nat) (ha : a < 64) (hb : b < 64) : wrap64 ((a : Int) - (b : Int)) = (a : Int) - (b : Int) := by simp only [wrap64]; omega
theorem w_i16 (n : Nat) (h : n < 64) : IntKind.i64.wrap (n : Int) = (n : Int) := by rw [IntKind.wrap_i64]; omega
theorem row_at {w' : World} {base : Nat} {y : Value} {l : List Mv} (hown : w'.ownsRow base 40 5 y l.length (M.cells l)) :
    ∃ ao cap, y = .slice ao l.length cap ∧ l.length ≤ cap ∧ cap ≤ maxLen ∧ (0 < l.length → ∃ b, ao = some ⟨b, 0, none⟩ ∧ b < w'.heap.size ∧ ∀ i m, l[i]? = some m → M.At w' b (i * 5) m) := by
  obtain ⟨ao, cap, rfl, h1, h2, h3⟩ := M.row_open hown
  refine ⟨ao, cap, rfl, h1, h2, fun h => ?_⟩
  obtain ⟨b, rfl, _, hb, hc⟩ := h3 h
  exact ⟨b, rfl, hb, fun i m hm => M.at_of hc i m hm⟩
end A
set_option maxRecDepth 100000 in
set_option maxHeartbeats 8000000 in
theorem afterSquares_walk (c : Nat → Int) (w : World) (hc : PosOk c) (hT : Tb w) :
    Calls Tryz.prog 5 #[.agg (posC c)] w fun e w' => e = .returned (.bool true) ∧ Below w.heap.size w w' := by
  have HT := Lib.hid (fun W (hb : Below w.heap.size w W) => tb_below hT hb)
  have HC := Lib.hid hc
  have hp := PosAt.new w c
  have hb0 : Below w.heap.size w (w.alloc (.cells (posC c) 31)) := (Below.refl _ _).alloc (Nat.le_refl _) _
  obtain ⟨W, hW⟩ : ∃ W, w.alloc (.cells (posC c) 31) = W := ⟨_, rfl⟩
  rw [hW] at hp hb0
  clear hT hc
  cases hl : law16 c
  · have HL := Lib.hid hl
    clear hl
    go_enter Tryz.func5, Tryz.ntmps5
    go_wp2_with (first
      | ((with_reducible refine wp_load_box rfl _ rfl ?_); refine ⟨_, _, rfl, hp, ?_⟩)
      | (go_at_call 18; refine (lawful16_eq c false _ HC.out HL.out).mono ?_; rintro e w3 ⟨rfl, hb3⟩; have HB3 := Lib.hid (below_next hb0 hb3))
      | (go_at_call 15; refine (awake16_any _ (HT.out _ HB3.out)).mono ?_; rintro e w4 ⟨rfl, hb4⟩))
    go_ret
    exact ⟨rfl, below_next HB3.out hb4⟩
  · have HL := Lib.hid hl
    clear hl
    have HL1 : Hid (∀ w, Tb w → Calls Tryz.prog 13 #[.agg (posC c)] w (Z.End (A.all c) w)) := Lib.hid (fun w hw => aall_any c w HC.out hw)
    have HF1 : Hid (∀ m ∈ A.all c, ∃ F G p d ca, m = (((F : Nat) : Int), ((G : Nat) : Int), p, d, ca) ∧ A.Fine c F G p d ca (Z.taken c m)) := Lib.hid (fun m hm => A.fine_of c m HC.out hm)
    have HM1 : Hid (∀ m ∈ A.all c, ∀ W, Tb W → Calls Tryz.prog 19 #[.agg (posC c), .agg (M.cell m).toArray] W fun e w' => e = .returned (.tuple #[.agg (posC (A.after c m (Z.taken c m))), .bool true]) ∧ Below W.heap.size W w') := Lib.hid (fun m hm W hw => amove_any c m W HC.out hw hm)
    have hl1 := A.all_len c HC.out
    go_enter Tryz.func5, Tryz.ntmps5
    go_wp2_with (first
      | ((with_reducible refine wp_load_box rfl _ rfl ?_); refine ⟨_, _, rfl, hp, ?_⟩)
      | (go_at_call 18; refine (lawful16_eq c true _ HC.out HL.out).mono ?_; rintro e w3 ⟨rfl, hb3⟩; have HB3 := Lib.hid (below_next hb0 hb3); have hp3 := hp.below hb3; clear hb3)
      | ((with_reducible refine wp_load_box rfl _ rfl ?_); refine ⟨_, _, rfl, hp3, ?_⟩)
      | (go_at_call 13; (with_reducible refine (HL1.out _ (HT.out _ HB3.out)).mono ?_); rintro e uu4 ⟨v4, rfl, hown4, hb⟩; have HB4 := Lib.hid (below_next HB3.out hb); have HP4 := Lib.hid (hp3.below hb); obtain ⟨ao1, cap1, rfl, hcp1, hcm1, hat1⟩ := A.row_at hown4; clear hb hown4 hp3 hcp1 hcm1))
    obtain ⟨L, hL⟩ : ∃ L, A.all c = L := ⟨_, rfl⟩
    rw [hL] at hl1 HF1 HM1 hat1 ⊢
    have HA1 := Lib.hid hat1
    clear hat1 hL hp hb0 hW HL1
    go_loopw [4] (fun i wr => ∃ k : Nat, k ≤ L.length ∧ i = .int .i64 (k : Int) ∧ Below uu4.heap.size uu4 wr) (fun i _ => L.length - (intOf i).toNat)
    case atStart => exact ⟨0, Nat.zero_le _, rfl, Below.refl _ _⟩
    case round =>
      obtain ⟨j, hj, rfl, hbr⟩ := hrel
      by_cases hlt : j < L.length
      · obtain ⟨x1, hx1⟩ : ∃ x1, L[j]? = some x1 := ⟨L[j], List.getElem?_eq_getElem hlt⟩
        have hmem := List.mem_of_getElem? hx1
        obtain ⟨b1, hao1, hb1, hcell1⟩ := HA1.out (by omega)
        cases hao1
        have HMv := Lib.hid (HM1.out x1 hmem)
        obtain ⟨F, G, p, d, ca, rfl, hf⟩ := HF1.out x1 hmem
        obtain ⟨t, ht⟩ : ∃ t, Z.taken c ((F : Int), (G : Int), p, d, ca) = t := ⟨_, rfl⟩
        have HTk : Hid (∀ W, Tb W → Calls Tryz.prog 20 #[.agg (posC c), .agg #[.int .i8 (F : Int), .int .i8 (G : Int), .int .u8 p, .int .u8 d, .bool ca]] W fun e w' => e = .returned (.int .i64 t) ∧ Below W.heap.size W w') := Lib.hid (fun W h => ht ▸ ptaken_any c (F : Int) (G : Int) p d ca W HC.out h)
        obtain ⟨K, R, ok, hgo⟩ := A.goals_form c (T.side c F G ca)
        have HGo : Hid (∀ W, Calls Tryz.prog 21 #[.agg (posC c), .agg #[.int .i8 (F : Int), .int .i8 (G : Int), .int .u8 p, .int .u8 d, .bool ca]] W fun e w' => e = .returned (.tuple #[.int .i64 K, .int .i64 R, .bool ok]) ∧ Below W.heap.size W w') := Lib.hid (fun W => by
          have := cgoals_any c (F : Int) (G : Int) p d ca W HC.out (by have := hf.F64; omega) (by have := hf.G64; omega)
          rwa [hgo] at this)
        obtain ⟨q, hq⟩ : ∃ q, A.after c ((F : Int), (G : Int), p, d, ca) (Z.taken c ((F : Int), (G : Int), p, d, ca)) = q := ⟨_, rfl⟩
        rw [hq] at HMv
        rw [ht] at hf hq
        have HF := Lib.hid hf
        have HGV := Lib.hid hgo
        have HQ := Lib.hid hq
        have hAr := (hcell1 j _ hx1).below hbr
        obtain ⟨m0, m1, m2, m3, m4⟩ := hAr.five
        have hp := HP4.out.below hbr
        have HLT := Lib.hid hlt
        have hm := RowAt.new wr #[.int .i8 (F : Int), .int .i8 (G : Int), .int .u8 p, .int .u8 d, .bool ca] 40
        have hpa := hp.alloc (.cells #[.int .i8 (F : Int), .int .i8 (G : Int), .int .u8 p, .int .u8 d, .bool ca] 40)
        have hba := hbr.alloc hbr.size (.cells #[.int .i8 (F : Int), .int .i8 (G : Int), .int .u8 p, .int .u8 d, .bool ca] 40)
        have HWM := Lib.hid hp.lt
        have hb1l : b1 < wr.heap.size := by have := hbr.size; omega
        have hj64 : (j : Int) < 100000 := by omega
        clear hcell1 hx1 hmem hAr hj hb1 ht hgo hq hf hp hbr
        go_upto_region 8 with fail
        obtain ⟨W5, hW5⟩ : ∃ W5, wr.alloc (.cells #[.int .i8 (F : Int), .int .i8 (G : Int), .int .u8 p, .int .u8 d, .bool ca] 40) = W5 := ⟨_, rfl⟩
        have hwm := HWM.out
        rw [hW5] at hm hpa hba ⊢
        obtain ⟨bm, hbm⟩ : ∃ bm, wr.heap.size = bm := ⟨_, rfl⟩
        rw [hbm] at hm hwm ⊢
        clear hW5 hbm m0 m1 m2 m3 m4 hj64 hb1l
        have hsz := hba.size
        go_wp2_with (first
          | ((with_reducible refine wp_load_box rfl _ rfl ?_); refine ⟨w.heap.size, c, rfl, (by assumption), ?_⟩)
          | ((with_reducible refine wp_load_row' rfl 40 _ rfl Tryz.underlying40 rfl ?_); refine ⟨bm, 40, #[.int .i8 (F : Int), .int .i8 (G : Int), .int .u8 p, .int .u8 d, .bool ca], rfl, (by assumption), Tryz.size_Mv, ?_⟩)
          | (go_at_call 19; refine (HMv.out _ (HT.out _ (below_next HB4.out hba))).mono ?_; rintro e w6 ⟨rfl, hb6⟩; replace hpa := hpa.below hb6; replace hm := hm.below hb6; replace hba := below_next hba hb6; have hl6 := hpa.lt; have hl7 := hm.lt; clear hb6)
          | ((with_reducible refine wp_store_box rfl _ _ rfl ?_); refine ⟨w6.heap.size, q, rfl, rfl, ⟨_, heap_alloc_new _ _, (by kernel_rfl)⟩, ?_⟩; intro W7 hP7 hq7; replace hpa : PosAt W7 w.heap.size c := ⟨(hP7.block _ (by omega)).trans (hpa.alloc _).heap⟩; replace hm : RowAt W7 bm 40 #[.int .i8 (F : Int), .int .i8 (G : Int), .int .u8 p, .int .u8 d, .bool ca] := ⟨(hP7.block _ (by omega)).trans (hm.alloc _).heap⟩; replace hba := hP7.below (hba.alloc hba.size _) hba.size; clear hP7)
          | (go_at_call 20; refine (HTk.out _ (HT.out _ (below_next HB4.out hba))).mono ?_; rintro e w8 ⟨rfl, hb8⟩; replace hpa := hpa.below hb8; replace hm := hm.below hb8; replace hq7 := hq7.below hb8; replace hba := below_next hba hb8; clear hb8)
          | (go_at_call 21; refine (HGo.out _).mono ?_; rintro e w9 ⟨rfl, hb9⟩; replace hpa := hpa.below hb9; replace hm := hm.below hb9; replace hq7 := hq7.below hb9; replace hba := below_next hba hb9; clear hb9))
        obtain ⟨bq, hbq⟩ : ∃ bq, w6.heap.size = bq := ⟨_, rfl⟩
        rw [hbq] at hq7 ⊢
        have HPA := Lib.hid hpa
        have HMA := Lib.hid hm
        have HQA := Lib.hid hq7
        have HBA := Lib.hid hba
        clear hpa hm hq7 hba hl6 hl7 hbq HMv HTk HGo
        go_loopw [12] (fun x wr => ∃ s : Nat, s ≤ 64 ∧ x = .int .i64 (s : Int) ∧ Below w9.heap.size w9 wr) (fun x _ => 64 - (intOf x).toNat)
        case atStart => exact ⟨0, Nat.zero_le _, rfl, Below.refl _ _⟩
        case round =>
          obtain ⟨s, hs, rfl, hbs⟩ := hrel
          by_cases hs64 : s < 64
          · have hG64 := HF.out.G64
            have hF64 := HF.out.F64
            obtain ⟨a, ha⟩ : ∃ a, a = s % 8 := ⟨_, rfl⟩
            obtain ⟨b, hb⟩ : ∃ b, b = s / 8 := ⟨_, rfl⟩
            obtain ⟨g, hg⟩ : ∃ g, g = G % 8 := ⟨_, rfl⟩
            obtain ⟨h, hh⟩ : ∃ h, h = G / 8 := ⟨_, rfl⟩
            obtain ⟨x, hx⟩ : ∃ x, c (1 + s) = x := ⟨_, rfl⟩
            obtain ⟨xm, hxm⟩ : ∃ xm, x % 8 = xm := ⟨_, rfl⟩
            obtain ⟨v, hv⟩ : ∃ v, c 0 = v := ⟨_, rfl⟩
            obtain ⟨NR, hNR⟩ : ∃ NR, A.nearB (s : Int) (G : Int) (a : Int) (g : Int) (b : Int) (h : Int) = NR := ⟨_, rfl⟩
            obtain ⟨NM, hNM⟩ : ∃ NM, A.namedB v F G t K R (s : Int) xm ok NR = NM := ⟨_, rfl⟩
            have hx0 : 0 ≤ x := by rw [← hx]; exact (pos_bd HC.out s hs64).1
            have hsq : NM = false → q (1 + s) = x := fun e => by
              rw [← hx, ← HQ.out]
              refine A.not_named c F G p d ca t K R ok s hs64 HF.out HGV.out ?_
              rw [hv, hx, hxm, ← e, ← hNM, ← hNR, ha, hb, hg, hh]
              simp
            have FNR := Lib.hid hNR
            have FNM := Lib.hid hNM
            have FSQ := Lib.hid hsq
            have T1 := Lib.hid (show (s : Int).tmod 8 = (a : Int) by rw [ha, Int.tmod_eq_emod_of_nonneg (by omega)]; simp)
            have T2 := Lib.hid (show (s : Int).tdiv 8 = (b : Int) by rw [hb, Int.tdiv_eq_ediv_of_nonneg (by omega)]; simp)
            have T3 := Lib.hid (show (G : Int).tmod 8 = (g : Int) by rw [hg, Int.tmod_eq_emod_of_nonneg (by omega)]; simp)
            have T4 := Lib.hid (show (G : Int).tdiv 8 = (h : Int) by rw [hh, Int.tdiv_eq_ediv_of_nonneg (by omega)]; simp)
            have T5 := Lib.hid (show x.tmod 8 = xm by rw [Int.tmod_eq_emod_of_nonneg hx0, hxm])
            have W1 := Lib.hid (A.w_sub a g (by omega) (by omega))
            have W2 := Lib.hid (A.w_sub g a (by omega) (by omega))
            have W3 := Lib.hid (A.w_sub b h (by omega) (by omega))
            have W4 := Lib.hid (A.w_sub h b (by omega) (by omega))
            have W7' := Lib.hid (A.w_64 b (by omega))
            have W8' := Lib.hid (A.w_64 h (by omega))
            have W5' := Lib.hid (A.w_i16 F hF64)
            have W6' := Lib.hid (A.w_i16 G hG64)
            have hmw := HMA.out.below hbs
            have hqw := HQA.out.below hbs
            have hpw := HPA.out.below hbs
            have k0 : wr.cell? ⟨bm, 0, none⟩ = some (.int .i8 (F : Int)) := hmw.cell 0
            have k1 : wr.cell? ⟨bm, 1, none⟩ = some (.int .i8 (G : Int)) := hmw.cell 1
            have cq := bd_cell hqw.heap s hs64
            have cp := bd_cell hpw.heap s hs64
            have c0 := hpw.cell (i := 0) (by decide)
            rw [show pk 0 = .u8 from rfl, hv] at c0
            rw [hx] at cp
            have L1 := hqw.lt
            have L2 := hpw.lt
            have hsI : (s : Int) < 64 := by omega
            have HBS := Lib.hid hbs
            have HS64 := Lib.hid (And.intro hs hs64)
            have KC := Lib.hid (And.intro k0 (And.intro k1 (And.intro cq (And.intro cp (And.intro c0 (And.intro L1 L2))))))
            clear ha hb hg hh hx hxm hv hNR hNM hx0 hsq hmw hqw hpw hbs hs hs64 cq cp c0 k0
            go_upto_region 14 with fail
            go_cut [13] from 47 to 158 (fun s13 wx => s13 = .bool NR ∧ wr = wx)
            case first =>
              have u1 := T1.out
              have u2 := T2.out
              have u3 := T3.out
              have u4 := T4.out
              have u5 := W1.out
              have u6 := W2.out
              have u7 := W3.out
              have u8' := W4.out
              have u9' := W6'.out
              have u10' := W7'.out
              have u11' := W8'.out
              cases n1 : ((s : Int) != (G : Int))
              · have E := Lib.hid (show NR = false by rw [← FNR.out]; unfold A.nearB; simp [n1])
                go_wp2
                go_meet
                exact ⟨by rw [E.out], rfl⟩
              · cases n2 : decide ((a : Int) - (g : Int) ≤ 1)
                · have E := Lib.hid (show NR = false by rw [← FNR.out]; unfold A.nearB; simp [n1, n2])
                  go_wp2
                  go_meet
                  exact ⟨by rw [E.out], rfl⟩
                · cases n3 : decide ((g : Int) - (a : Int) ≤ 1)
                  · have E := Lib.hid (show NR = false by rw [← FNR.out]; unfold A.nearB; simp [n1, n2, n3])
                    go_wp2
                    go_meet
                    exact ⟨by rw [E.out], rfl⟩
                  · cases n4 : decide ((b : Int) - (h : Int) ≤ 1)
                    · have E := Lib.hid (show NR = false by rw [← FNR.out]; unfold A.nearB; simp [n1, n2, n3, n4])
                      go_wp2
                      go_meet
                      exact ⟨by rw [E.out], rfl⟩
                    · cases n5 : decide ((h : Int) - (b : Int) ≤ 1)
                      · have E := Lib.hid (show NR = false by rw [← FNR.out]; unfold A.nearB; simp [n1, n2, n3, n4, n5])
                        go_wp2
                        go_meet
                        exact ⟨by rw [E.out], rfl⟩
                      · have E := Lib.hid (show NR = true by rw [← FNR.out]; unfold A.nearB; simp [n1, n2, n3, n4, n5])
                        go_wp2
                        go_meet
                        exact ⟨by rw [E.out], rfl⟩
            case rest =>
              obtain ⟨rfl, rfl⟩ := hcut
              go_upto_region 15 with fail
              go_cut [14] from 47 to 158 (fun s14 wx => s14 = .bool NM ∧ wr = wx)
              case first =>
                have k0 := KC.out.1
                have cp := KC.out.2.2.2.1
                have c0 := KC.out.2.2.2.2.1
                have y5 := T5.out
                have y6 := W5'.out
                have y7 := W6'.out
                cases b1 : ((s : Int) == (F : Int))
                · cases b2 : ((s : Int) == (G : Int))
                  · cases b3 : ((s : Int) == t)
                    · cases ok
                      · cases v3 : (v == 3)
                        · have E := Lib.hid (show NM = false by rw [← FNM.out]; unfold A.namedB; simp [b1, b2, b3, v3])
                          go_wp2
                          go_meet
                          exact ⟨by rw [E.out], rfl⟩
                        · cases t0 : decide (0 ≤ t)
                          · have E := Lib.hid (show NM = false by rw [← FNM.out]; unfold A.namedB; simp [b1, b2, b3, v3, t0])
                            go_wp2
                            go_meet
                            exact ⟨by rw [E.out], rfl⟩
                          · cases NR
                            · have E := Lib.hid (show NM = false by rw [← FNM.out]; unfold A.namedB; simp [b1, b2, b3, v3, t0])
                              go_wp2
                              go_meet
                              exact ⟨by rw [E.out], rfl⟩
                            · cases b6 : (xm != 1)
                              · have E := Lib.hid (show NM = false by rw [← FNM.out]; unfold A.namedB; simp [b1, b2, b3, v3, t0, b6])
                                go_wp2
                                go_meet
                                exact ⟨by rw [E.out], rfl⟩
                              · have E := Lib.hid (show NM = true by rw [← FNM.out]; unfold A.namedB; simp [b1, b2, b3, v3, t0, b6])
                                go_wp2
                                go_meet
                                exact ⟨by rw [E.out], rfl⟩
                      · cases b4 : ((s : Int) == K)
                        · cases b5 : ((s : Int) == R)
                          · cases v3 : (v == 3)
                            · have E := Lib.hid (show NM = false by rw [← FNM.out]; unfold A.namedB; simp [b1, b2, b3, b4, b5, v3])
                              go_wp2
                              go_meet
                              exact ⟨by rw [E.out], rfl⟩
                            · cases t0 : decide (0 ≤ t)
                              · have E := Lib.hid (show NM = false by rw [← FNM.out]; unfold A.namedB; simp [b1, b2, b3, b4, b5, v3, t0])
                                go_wp2
                                go_meet
                                exact ⟨by rw [E.out], rfl⟩
                              · cases NR
                                · have E := Lib.hid (show NM = false by rw [← FNM.out]; unfold A.namedB; simp [b1, b2, b3, b4, b5, v3, t0])
                                  go_wp2
                                  go_meet
                                  exact ⟨by rw [E.out], rfl⟩
                                · cases b6 : (xm != 1)
                                  · have E := Lib.hid (show NM = false by rw [← FNM.out]; unfold A.namedB; simp [b1, b2, b3, b4, b5, v3, t0, b6])
                                    go_wp2
                                    go_meet
                                    exact ⟨by rw [E.out], rfl⟩
                                  · have E := Lib.hid (show NM = true by rw [← FNM.out]; unfold A.namedB; simp [b1, b2, b3, b4, b5, v3, t0, b6])
                                    go_wp2
                                    go_meet
                                    exact ⟨by rw [E.out], rfl⟩
                          · have E := Lib.hid (show NM = true by rw [← FNM.out]; unfold A.namedB; simp [b1, b2, b3, b4, b5])
                            go_wp2
                            go_meet
                            exact ⟨by rw [E.out], rfl⟩
                        · have E := Lib.hid (show NM = true by rw [← FNM.out]; unfold A.namedB; simp [b1, b2, b3, b4])
                          go_wp2
                          go_meet
                          exact ⟨by rw [E.out], rfl⟩
                    · have E := Lib.hid (show NM = true by rw [← FNM.out]; unfold A.namedB; simp [b1, b2, b3])
                      go_wp2
                      go_meet
                      exact ⟨by rw [E.out], rfl⟩
                  · have E := Lib.hid (show NM = true by rw [← FNM.out]; unfold A.namedB; simp [b1, b2])
                    go_wp2
                    go_meet
                    exact ⟨by rw [E.out], rfl⟩
                · have E := Lib.hid (show NM = true by rw [← FNM.out]; unfold A.namedB; simp [b1])
                  go_wp2
                  go_meet
                  exact ⟨by rw [E.out], rfl⟩
              case rest =>
                obtain ⟨rfl, rfl⟩ := hcut
                have cp := KC.out.2.2.2.1
                go_upto_region 16 with fail
                cases NM
                · have cq := KC.out.2.2.1
                  rw [FSQ.out rfl] at cq
                  have hxx : (x != x) = false := by simp
                  refine region_below (by kernel_rfl) (by kernel_rfl) ?_
                  repeat (go_big_quiet_step (fail))
                  refine wpQuiet_nil ?_
                  intro w10 hb10
                  have HX := Lib.hid (below_next HBS.out hb10)
                  clear hb10 cp cq hxx k1
                  go_wp2
                  have hs9 := HS64.out
                  go_roundw
                  case rel => exact ⟨s + 1, by omega, by go_num, HX.out⟩
                  case measure => simp [intOf]; omega
                · refine region_below (by kernel_rfl) (by kernel_rfl) ?_
                  repeat (go_big_quiet_step (fail))
                  refine wpQuiet_nil ?_
                  intro w10 hb10
                  have HX := Lib.hid (below_next HBS.out hb10)
                  clear hb10 cp k1
                  go_wp2
                  have hs9 := HS64.out
                  go_roundw
                  case rel => exact ⟨s + 1, by omega, by go_num, HX.out⟩
                  case measure => simp [intOf]; omega
          · obtain rfl : s = 64 := by omega
            have HBS := Lib.hid hbs
            have hlt2 := HLT.out
            clear hbs
            go_wp2
            go_roundw
            case rel => exact ⟨j + 1, by omega, by go_num, below_next HBA.out HBS.out⟩
            case measure => simp [intOf]; omega
      · obtain rfl : j = L.length := by omega
        go_wp2_with (go_at_call 15; refine (awake16_any _ (HT.out _ (below_next HB4.out hbr))).mono ?_; rintro e w4 ⟨rfl, hb4⟩)
        go_ret
        exact ⟨rfl, below_next (below_next HB4.out hbr) hb4⟩
end Go.Proofs.YtgkndhpolcnjbaaGreatDoor
