/- The program's package valid: pockets. -/
import Derived.Test.YtlphjjekamhnlaaDoorVpA
import Derived.Test.YtlphjjekamhnlaaDoorEqPos
namespace Go.Proofs.YtlphjjekamhnlaaDoor
open Go.RowKit Go.Sort
attribute [local go_sem] Oper.semAt_some

/-! The pockets: twelve cells. -/
def pkL (c : Nat → Int) : List Value := (List.range 12).map fun i => Value.int .u8 (c (66 + i))
theorem pk_range {w : World} {g : Nat} {T : TypeId} {c : Nat → Int} (h : PosIn w g T c) : w.rangeAt g 66 (pkL c) := fun j v hj => by
  have hj2 := (List.getElem?_eq_some_iff.1 hj).1
  have hj3 : j < 12 := by simpa [pkL] using hj2
  have : v = .int .u8 (c (66 + j)) := by
    unfold pkL at hj
    rw [List.getElem?_map, List.getElem?_range hj3] at hj
    exact (Option.some.inj hj).symm
  rw [this]
  exact h.cell (66 + j) (by omega) .u8 (by unfold pk; rw [if_neg (by omega), if_neg (by omega), if_pos (by omega)])
def pkK : List (Option IntKind) := List.replicate 12 (some .u8)
theorem pkFlatG : flatG Tryd.prog 4 25 = some pkK := of_decide_eq_true (by kernel_rfl)
theorem pkKeyType : Tryd.prog.keyTypeAt 3 25 = true := of_decide_eq_true (by kernel_rfl)
theorem pkFormed (c : Nat → Int) : (Value.agg (pkL c).toArray).formed Tryd.prog 25 = true := by kernel_rfl
theorem pkGuard : Tryd.prog.eqGuardType Tryd.prog.depth 25 = false := by kernel_rfl
theorem Tryd.size_pk (c : Nat → Int) : (Tryd.prog.info? 25).map (·.size) = some (pkL c).length := by kernel_rfl
theorem pkFlatIs (c : Nat → Int) (hc : ∀ i, i < 12 → 0 ≤ c (66 + i) ∧ c (66 + i) ≤ 255) : FlatIs pkK (pkL c) := by
  refine ⟨by simp [pkL, pkK], fun i k hi => ?_⟩
  have hlt := (List.getElem?_eq_some_iff.1 hi).1
  have h12 : i < 12 := by simpa [pkK] using hlt
  have : k = some .u8 := by
    unfold pkK at hi
    rw [List.getElem?_replicate, if_pos h12] at hi
    exact (Option.some.inj hi).symm
  subst this
  obtain ⟨x0, x1⟩ := hc i h12
  refine ⟨.int .u8 (c (66 + i)), by unfold pkL; rw [List.getElem?_map, List.getElem?_range h12]; rfl, _, rfl, ?_⟩
  exact all8 (fun x => (Lit.int .u8 x).wf = true) (by decide +kernel) _ x0 x1
theorem pkL_zero : (pkL fun _ => 0).toArray = #[.int .u8 0, .int .u8 0, .int .u8 0, .int .u8 0, .int .u8 0, .int .u8 0, .int .u8 0, .int .u8 0, .int .u8 0, .int .u8 0, .int .u8 0, .int .u8 0] := rfl
theorem pk_lits (c c' : Nat → Int) : (pkL c).map litOf = (pkL c').map litOf ↔ ∀ i, i < 12 → c (66 + i) = c' (66 + i) := by
  unfold pkL
  constructor
  · intro h i hi
    have := congrArg (·[i]?) h
    simp [hi, litOf] at this
    exact this
  · intro h
    rw [List.map_map, List.map_map]
    apply List.map_congr_left
    intro i hi
    simp [litOf, h i (by simpa using hi)]
theorem run_equal_pk (c : Nat → Int) (w : World) (hc : ∀ i, i < 12 → 0 ≤ c (66 + i) ∧ c (66 + i) ≤ 255) : (Op.equal 25 (.agg (pkL c).toArray) (.agg (pkL fun _ => 0).toArray)).run Tryd.prog w = .ok (Y.pk0 c) w := by
  obtain ⟨r, hr, hiff⟩ := run_equalIn_deep 9997 3 25 pkKeyType w 4 4 (.agg (pkL c).toArray) (.agg (pkL fun _ => 0).toArray) _ _ (pkFormed c) (pkFormed fun _ => 0)
    (by show Tryd.prog.keyLits 4 25 (pkL c).toArray.toList = _; exact flatG_key 4 _ _ _ pkFlatG (pkFlatIs c hc)) (by show Tryd.prog.keyLits 4 25 (pkL fun _ => 0).toArray.toList = _; exact flatG_key 4 _ _ _ pkFlatG (pkFlatIs (fun _ => 0) fun _ _ => ⟨Int.le_refl 0, by show (0 : Int) ≤ 255; omega⟩))
  have e : r = Y.pk0 c := by
    rw [Bool.eq_iff_iff, hiff, pk_lits]
    unfold Y.pk0
    rw [List.all_eq_true]
    exact ⟨fun h i hi => by rw [h i (List.mem_range.1 hi)]; rfl, fun h i hi => by simpa using h i (List.mem_range.2 hi)⟩
  rw [← e]
  exact hr
theorem wpl_eql_pk {ops : Array Oper} {rest : List Oper} {o : Oper} {a : Act} {w : World} {Q : Exit → Act → World → Prop} (hw : Region.wanted o (yielded ops a.tmps) = true) (x y : Operand) (t : TypeId) (ho : o.op = .binOp .eql 25 x y t)
    (h : ∃ c : Nat → Int, (∀ i, i < 12 → 0 ≤ c (66 + i) ∧ c (66 + i) ≤ 255) ∧ a.eval x = .agg (pkL c).toArray ∧ a.eval y = .agg (pkL fun _ => 0).toArray ∧ wpList Tryd.prog ops Q rest (a.put o.dst (.bool (Y.pk0 c))) w) : wpList Tryd.prog ops Q (o :: rest) a w := by
  obtain ⟨c, hc, hx, hy, h⟩ := h
  refine wpList_step fun K hK => ?_
  rw [if_pos hw]
  unfold Oper.wp
  have hq := run_equal_pk c w hc
  have hg := pkGuard
  have e : (execOp a.eval o).run Tryd.prog w = .ok (.value (.bool (Y.pk0 c))) w := by
    unfold execOp
    simp only [ho, hx, hy]
    simp [eqGuard, binOp, hq, hg, go_sem]
  rw [e]
  exact hK _ _ h
theorem pos_pk {c : Nat → Int} (hc : PosOk c) : ∀ i, i < 12 → 0 ≤ c (66 + i) ∧ c (66 + i) ≤ 255 := fun i hi => pos_u8 hc (by omega) (by unfold pk; rw [if_neg (by omega), if_neg (by omega), if_pos (by omega)])
theorem prom_U {c : Nat → Int} (hc : PosOk c) : c 65 = U (Y.prom c) := by
  obtain ⟨h0, h1⟩ := pos_u64 hc
  unfold Y.prom U
  rw [BitVec.toNat_ofInt]
  omega
namespace Y
def PrTo (c : Nat → Int) (k : Nat) : Prop := ∀ j, j < k → promOk (prom c) j (c (1 + j)) = true
theorem PrTo.next {c : Nat → Int} {k : Nat} (h : PrTo c k) (e : promOk (prom c) k (c (1 + k)) = true) : PrTo c (k + 1) := fun j hj => by
  rcases Nat.lt_succ_iff_lt_or_eq.1 hj with h1 | rfl
  · exact h j h1
  · exact e
theorem promTo_if (c : Nat → Int) : ∀ n, promTo c n = true ↔ PrTo c n
  | 0 => ⟨fun _ j hj => by omega, fun _ => rfl⟩
  | n + 1 => by
    rw [promTo, Bool.and_eq_true, promTo_if c n]
    exact ⟨fun ⟨a, b⟩ => a.next b, fun h => ⟨fun j hj => h j (by omega), h n (by omega)⟩⟩
theorem pockets_noP {c : Nat → Int} (h2 : c 0 = 2) (k : Nat) (hk : k < 64) (h : promOk (prom c) k (c (1 + k)) = false) : pockets c = false := by
  have : promTo c 64 = false := by
    rw [Bool.eq_false_iff]
    intro e
    have := (promTo_if c 64).1 e k hk
    rw [h] at this
    cases this
  unfold pockets
  rw [if_pos h2, this]
  rfl
theorem pockets_no0 {c : Nat → Int} (h2 : c 0 = 2) (h : c 66 ≠ 0 ∨ c 72 ≠ 0) : pockets c = false := by
  unfold pockets
  rw [if_pos h2]
  rcases h with h | h
  · rw [show (c 66 == 0) = false by simpa using h]; simp
  · rw [show (c 72 == 0) = false by simpa using h]; simp
theorem pockets_yes {c : Nat → Int} (h2 : c 0 = 2) (h : PrTo c 64) (h66 : c 66 = 0) (h72 : c 72 = 0) : pockets c = decide ((menTo c 64 : Int) + heldTo c 12 ≤ 32) := by
  unfold pockets
  rw [if_pos h2, (promTo_if c 64).2 h, h66, h72]
  rfl
theorem menTo_le (c : Nat → Int) : ∀ n, menTo c n ≤ n
  | 0 => Nat.le_refl _
  | n + 1 => by
    have := menTo_le c n
    rw [menTo]; split <;> omega
theorem heldTo_bd {c : Nat → Int} (hc : PosOk c) : ∀ n, n ≤ 12 → 0 ≤ heldTo c n ∧ heldTo c n ≤ 255 * n
  | 0, _ => ⟨Int.le_refl _, Int.le_refl _⟩
  | n + 1, hn => by
    have := heldTo_bd hc n (by omega)
    obtain ⟨a, b⟩ := pos_pk hc n (by omega)
    rw [heldTo]
    omega
end Y
theorem pkL_index (c : Nat → Int) (t : Nat) (ht : t < 2) (w : World) : (Instr.index 25 (.agg (pkL c).toArray) (.int .i64 (t : Int))).run Tryd.prog w = .ok (.agg #[.int .u8 (c (66 + 6 * t)), .int .u8 (c (67 + 6 * t)), .int .u8 (c (68 + 6 * t)), .int .u8 (c (69 + 6 * t)), .int .u8 (c (70 + 6 * t)), .int .u8 (c (71 + 6 * t))]) w := by
  rcases (show t = 0 ∨ t = 1 by omega) with rfl | rfl <;> kernel_rfl

set_option maxRecDepth 100000 in
set_option maxHeartbeats 4000000 in
theorem vpockets_no (c : Nat → Int) (w : World) (hc : PosOk c) (h2 : c 0 ≠ 2) :
    Calls Tryd.prog 66 #[.agg (posC c)] w fun e w' => e = .returned (.bool (Y.pockets c)) ∧ Below w.heap.size w w' := by
  have hp := PosIn.new w 70 c
  have c0 := hp.cell 0 (by decide) .u8 rfl
  obtain ⟨v0, _⟩ := pos_u8 hc (i := 0) (by decide) rfl
  obtain ⟨v, hvv⟩ : ∃ v : Nat, c 0 = (v : Int) := ⟨(c 0).toNat, by omega⟩
  have HPw : Hid (∀ w, Calls Tryd.prog 103 #[.int .u8 (c 0)] w fun e w' => e = .returned (.bool false) ∧ Below w.heap.size w w') := Lib.hid (fun w => by
    have := rpockets_any v w
    unfold V.pockets at this
    rwa [← hvv, show (c 0 == 2) = false by simpa using h2] at this)
  have hb0 : Below w.heap.size w (w.alloc (.cells (posC c) 70)) := (Below.refl _ _).alloc (Nat.le_refl _) _
  have E := Lib.hid (show Y.pockets c = (Y.pk0 c && c 65 == 0) by unfold Y.pockets; rw [if_neg h2])
  have HPK := Lib.hid (pos_pk hc)
  have hz : (pkL fun _ => 0).toArray = #[.int .u8 0, .int .u8 0, .int .u8 0, .int .u8 0, .int .u8 0, .int .u8 0, .int .u8 0, .int .u8 0, .int .u8 0, .int .u8 0, .int .u8 0, .int .u8 0] := rfl
  have HZ := Lib.hid hz
  clear hc hvv v0 h2 hz
  cases hk : Y.pk0 c <;> cases h6 : (c 65 == 0)
  all_goals
    go_enter Tryd.func66, Tryd.ntmps66
    go_wp2_with (first
      | (go_at_call 103; refine (HPw.out _).mono ?_; rintro e w3 ⟨rfl, hb3⟩; have hp3 := hp.below hb3; have hbr3 := below_next hb0 hb3)
      | ((with_reducible refine wp_load_midG rfl 25 _ rfl Tryd.underlying25 rfl ?_); refine ⟨w.heap.size, 66, pkL c, rfl, pk_range hp3, Tryd.size_pk c, ?_⟩; have c65 := hp3.cell 65 (by decide) .u64 rfl)
      | ((with_reducible refine wpl_eql_pk rfl _ _ _ rfl ?_); refine ⟨c, HPK.out, rfl, rfl, ?_⟩))
    go_ret
    exact ⟨ret_bool (by rw [E.out, hk, h6]; rfl), hbr3⟩

set_option maxRecDepth 100000 in
set_option maxHeartbeats 8000000 in
theorem vpockets_yes (c : Nat → Int) (w : World) (hc : PosOk c) (h2 : c 0 = 2) :
    Calls Tryd.prog 66 #[.agg (posC c)] w fun e w' => e = .returned (.bool (Y.pockets c)) ∧ Below w.heap.size w w' := by
  have hp := PosIn.new w 70 c
  have c0 := hp.cell 0 (by decide) .u8 rfl
  have HPw : Hid (∀ w, Calls Tryd.prog 103 #[.int .u8 (c 0)] w fun e w' => e = .returned (.bool true) ∧ Below w.heap.size w w') := Lib.hid (fun w => by
    rw [h2]
    exact rpockets_any 2 w)
  have hb0 : Below w.heap.size w (w.alloc (.cells (posC c) 70)) := (Below.refl _ _).alloc (Nat.le_refl _) _
  have Hc := Lib.hid (pos_bd hc)
  have HU := Lib.hid (prom_U hc)
  have H2 := Lib.hid h2
  have HPb := Lib.hid (pos_pk hc)
  have HHb := Lib.hid (Y.heldTo_bd hc)
  obtain ⟨m, hm⟩ : ∃ m, Y.prom c = m := ⟨_, rfl⟩
  have HM := Lib.hid hm
  clear hc h2 hm
  go_enter Tryd.func66, Tryd.ntmps66
  go_wp2_with (first
    | (go_at_call 103; refine (HPw.out _).mono ?_; rintro e w3 ⟨rfl, hb3⟩; have hp3 := hp.below hb3; have hbr3 := below_next hb0 hb3)
    | ((with_reducible refine wp_load_bd rfl _ rfl c ?_ ?_); · (exact ⟨_, _, _, rfl, hp3.heap⟩)))
  have c65 := hp3.cell 65 (by decide) .u64 rfl
  rw [HU.out, HM.out] at c65
  have HP3 := Lib.hid (And.intro hp3 hbr3)
  clear hp3 hbr3 hb3 hp hb0 c0
  go_loop [3, 30] (fun p i => ∃ k : Nat, k ≤ 64 ∧ i = .int .i64 (k : Int) ∧ p = .int .i64 (Y.menTo c k : Int) ∧ Y.PrTo c k) (fun _ i => 64 - (intOf i).toNat)
  case atStart => exact ⟨0, Nat.zero_le _, rfl, rfl, fun j hj => by omega⟩
  case round =>
    obtain ⟨k, hk, rfl, rfl, hB⟩ := hrel
    have HB := Lib.hid hB
    clear hB
    by_cases hlt : k < 64
    · have hi := bd_index c k hlt
      have hl := Y.menTo_le c k
      obtain ⟨x0, x1⟩ := Hc.out k hlt
      have HNo := Lib.hid (fun h => Y.pockets_noP (c := c) H2.out k hlt (by rw [HM.out]; exact h))
      have HYes := Lib.hid (fun h => Y.PrTo.next (c := c) HB.out (by rw [HM.out]; exact h))
      have HMen := Lib.hid (show Y.menTo c (k + 1) = if c (1 + k) == 0 then Y.menTo c k else Y.menTo c k + 1 from rfl)
      have hw : IntKind.u64.wrap (k : Int) = k := by rw [IntKind.wrap_u64]; omega
      have hdiv : U m / 2 ^ k = U (bShr m k) := by have := bv_shr_nat m k; rwa [Nat.min_eq_left (by omega)] at this
      have hsh : bit (bShr m k) 0 = bit m k := by rw [bit_shr, Nat.add_zero]
      have HF := Lib.hid (show Y.promOk m k (c (1 + k)) = (!bit m k || (decide (2 ≤ P.kind (c (1 + k))) && decide (P.kind (c (1 + k)) ≤ 5))) from rfl)
      generalize c (1 + k) = x at *
      obtain ⟨q, hq⟩ : ∃ q, P.kind x = q := ⟨_, rfl⟩
      have HK : Hid (∀ w, Calls Tryd.prog 61 #[.int .u8 x] w fun e w' => e = .returned (.int .u8 q) ∧ w = w') := Lib.hid (fun w => by rw [← hq]; exact kind_any x w x0 x1)
      rw [hq] at HF
      clear hq
      cases hbt : bit m k
      · have hqt : (bv1 (bit (bShr m k) 0) == 1) = false := by rw [hsh, hbt]; rfl
        have E := Lib.hid (HYes.out (by rw [HF.out, hbt]; rfl))
        clear hsh hbt
        cases hz : (x != 0)
        · have E2 := Lib.hid (show Y.menTo c (k + 1) = Y.menTo c k by rw [HMen.out, show (x == 0) = true by simpa using hz]; rfl)
          go_wp2_with (go_at_call 61; refine (HK.out _).mono ?_; rintro e w' ⟨rfl, rfl⟩)
          go_round
          case rel => exact ⟨k + 1, by omega, by go_num, by rw [E2.out], E.out⟩
          case measure => simp [intOf]; omega
        · have E2 := Lib.hid (show Y.menTo c (k + 1) = Y.menTo c k + 1 by rw [HMen.out, show (x == 0) = false by simpa using hz]; rfl)
          go_wp2_with (go_at_call 61; refine (HK.out _).mono ?_; rintro e w' ⟨rfl, rfl⟩)
          go_round
          case rel => exact ⟨k + 1, by omega, by go_num, by rw [E2.out]; go_num, E.out⟩
          case measure => simp [intOf]; omega
      · have hqt : (bv1 (bit (bShr m k) 0) == 1) = true := by rw [hsh, hbt]; rfl
        by_cases h1 : q < 2
        · have d1 : decide (q < 2) = true := decide_eq_true h1
          have E := Lib.hid (HNo.out (by rw [HF.out, hbt, decide_eq_false (show ¬ 2 ≤ q by omega)]; rfl))
          clear hsh hbt h1
          cases hz : (x != 0)
          all_goals
            go_wp2_with (go_at_call 61; refine (HK.out _).mono ?_; rintro e w' ⟨rfl, rfl⟩)
            go_ret
            exact ⟨ret_bool E.out.symm, HP3.out.2⟩
        · have d1 : decide (q < 2) = false := decide_eq_false h1
          by_cases h3 : 5 < q
          · have d2 : decide (5 < q) = true := decide_eq_true h3
            have E := Lib.hid (HNo.out (by rw [HF.out, hbt, decide_eq_false (show ¬ q ≤ 5 by omega), Bool.and_false]; rfl))
            clear hsh hbt h1 h3
            cases hz : (x != 0)
            all_goals
              go_wp2_with (go_at_call 61; refine (HK.out _).mono ?_; rintro e w' ⟨rfl, rfl⟩)
              go_ret
              exact ⟨ret_bool E.out.symm, HP3.out.2⟩
          · have d2 : decide (5 < q) = false := decide_eq_false h3
            have E := Lib.hid (HYes.out (by rw [HF.out, hbt, decide_eq_true (show 2 ≤ q by omega), decide_eq_true (show q ≤ 5 by omega)]; rfl))
            clear hsh hbt h1 h3
            cases hz : (x != 0)
            · have E2 := Lib.hid (show Y.menTo c (k + 1) = Y.menTo c k by rw [HMen.out, show (x == 0) = true by simpa using hz]; rfl)
              go_wp2_with (go_at_call 61; refine (HK.out _).mono ?_; rintro e w' ⟨rfl, rfl⟩)
              go_round
              case rel => exact ⟨k + 1, by omega, by go_num, by rw [E2.out], E.out⟩
              case measure => simp [intOf]; omega
            · have E2 := Lib.hid (show Y.menTo c (k + 1) = Y.menTo c k + 1 by rw [HMen.out, show (x == 0) = false by simpa using hz]; rfl)
              go_wp2_with (go_at_call 61; refine (HK.out _).mono ?_; rintro e w' ⟨rfl, rfl⟩)
              go_round
              case rel => exact ⟨k + 1, by omega, by go_num, by rw [E2.out]; go_num, E.out⟩
              case measure => simp [intOf]; omega
    · obtain rfl : k = 64 := by omega
      obtain ⟨M, hM⟩ : ∃ M, Y.menTo c 64 = M := ⟨_, rfl⟩
      have hM64 := Y.menTo_le c 64
      rw [hM] at hM64 ⊢
      have HMM := Lib.hid hM
      clear hM c65
      go_wp2_with ((with_reducible refine wp_load_midG rfl 25 _ rfl Tryd.underlying25 rfl ?_); refine ⟨w.heap.size, 66, pkL c, rfl, pk_range HP3.out.1, Tryd.size_pk c, ?_⟩)
      go_loopw [3, 60] (fun p i wr => ∃ t : Nat, t ≤ 2 ∧ i = .int .i64 (t : Int) ∧ p = .int .i64 ((M : Int) + Y.heldTo c (6 * t)) ∧ (1 ≤ t → c 66 = 0) ∧ (2 ≤ t → c 72 = 0) ∧ Below w.heap.size w wr) (fun _ i _ => 2 - (intOf i).toNat)
      case atStart => exact ⟨0, Nat.zero_le _, rfl, (by show Value.int .i64 (M : Int) = .int .i64 ((M : Int) + 0); rw [Int.add_zero]), (fun h => by omega), (fun h => by omega), HP3.out.2⟩
      case round =>
        obtain ⟨t, ht, rfl, rfl, hz6, hz7, hbr⟩ := hrel
        have HZ := Lib.hid (And.intro hz6 hz7)
        clear hz6 hz7
        rcases (show t = 0 ∨ t = 1 ∨ t = 2 by omega) with rfl | rfl | rfl
        · have hi := pkL_index c 0 (by omega)
          obtain ⟨a0, b0⟩ := HPb.out 0 (by omega)
          obtain ⟨a1, b1⟩ := HPb.out 1 (by omega)
          obtain ⟨a2, b2⟩ := HPb.out 2 (by omega)
          obtain ⟨a3, b3⟩ := HPb.out 3 (by omega)
          obtain ⟨a4, b4⟩ := HPb.out 4 (by omega)
          obtain ⟨a5, b5⟩ := HPb.out 5 (by omega)
          have e0 := Lib.hid (show Y.heldTo c 1 = Y.heldTo c 0 + c 66 from rfl)
          have e1 := Lib.hid (show Y.heldTo c 2 = Y.heldTo c 1 + c 67 from rfl)
          have e2 := Lib.hid (show Y.heldTo c 3 = Y.heldTo c 2 + c 68 from rfl)
          have e3 := Lib.hid (show Y.heldTo c 4 = Y.heldTo c 3 + c 69 from rfl)
          have e4 := Lib.hid (show Y.heldTo c 5 = Y.heldTo c 4 + c 70 from rfl)
          have e5 := Lib.hid (show Y.heldTo c 6 = Y.heldTo c 5 + c 71 from rfl)
          obtain ⟨l0, l1⟩ := HHb.out 0 (by omega)
          change 0 ≤ c 66 at a0
          change c 66 ≤ 255 at b0
          change 0 ≤ c 67 at a1
          change c 67 ≤ 255 at b1
          change 0 ≤ c 68 at a2
          change c 68 ≤ 255 at b2
          change 0 ≤ c 69 at a3
          change c 69 ≤ 255 at b3
          change 0 ≤ c 70 at a4
          change c 70 ≤ 255 at b4
          change 0 ≤ c 71 at a5
          change c 71 ≤ 255 at b5
          have hi2 : ∀ w, (Instr.index 25 (.agg (pkL c).toArray) (.int .i64 0)).run Tryd.prog w = .ok (.agg #[.int .u8 (c 66), .int .u8 (c 67), .int .u8 (c 68), .int .u8 (c 69), .int .u8 (c 70), .int .u8 (c 71)]) w := fun w => hi w
          clear hi
          rw [show 6 * 0 = 0 from rfl]
          obtain ⟨h0, hh0⟩ : ∃ h0, Y.heldTo c 0 = h0 := ⟨_, rfl⟩
          rw [hh0] at l0 l1 ⊢
          rw [hh0] at e0
          clear hh0
          go_wp2
          go_loop [3, 64] (fun p i => ∃ k : Nat, k ≤ 6 ∧ i = .int .i64 (k : Int) ∧ (∃ h : Int, p = .int .i64 ((M : Int) + h) ∧ 0 ≤ h ∧ h ≤ 255 * 12 ∧ h = (if k = 0 then h0 else Y.heldTo c (0 + k))) ∧ (1 ≤ k → c 66 = 0)) (fun _ i => 6 - (intOf i).toNat)
          case atStart => exact ⟨0, Nat.zero_le _, rfl, ⟨h0, rfl, l0, by omega, rfl⟩, fun h => by omega⟩
          case round =>
            obtain ⟨k, hk, rfl, ⟨h, rfl, n0, n1, hh⟩, hz⟩ := hrel
            have HH := Lib.hid hh
            have HZ2 := Lib.hid hz
            clear hh hz
            rcases (show k = 0 ∨ k = 1 ∨ k = 2 ∨ k = 3 ∨ k = 4 ∨ k = 5 ∨ k = 6 by omega) with rfl | rfl | rfl | rfl | rfl | rfl | rfl
            · have hix : ∀ w, (Instr.index 24 (.agg #[.int .u8 (c 66), .int .u8 (c 67), .int .u8 (c 68), .int .u8 (c 69), .int .u8 (c 70), .int .u8 (c 71)]) (.int .i64 0)).run Tryd.prog w = .ok (.int .u8 (c 66)) w := fun _ => by kernel_rfl
              by_cases hp0 : 0 < c 66
              · have d1 : decide (0 < c 66) = true := decide_eq_true hp0
                have E := Lib.hid (Y.pockets_no0 H2.out (.inl (show c 66 ≠ 0 by omega)))
                go_wp2
                go_ret
                exact ⟨ret_bool E.out.symm, by first | exact hbr | exact below_next hbr ((Below.refl _ _).alloc (Nat.le_refl _) _) | exact hbr.alloc hbr.size _⟩
              · have d1 : decide (0 < c 66) = false := decide_eq_false hp0
                have E := Lib.hid (show c 66 = 0 by omega)
                have E2 := Lib.hid (show h = h0 from HH.out)
                go_wp2
                go_round
                case rel => exact ⟨1, by omega, rfl, ⟨h + c 66, by go_num, by omega, by have := E2.out; omega, by rw [if_neg (by omega)]; have := e0.out; rw [E2.out]; exact this.symm⟩, fun _ => E.out⟩
                case measure => simp [intOf]
            · have hix : ∀ w, (Instr.index 24 (.agg #[.int .u8 (c 66), .int .u8 (c 67), .int .u8 (c 68), .int .u8 (c 69), .int .u8 (c 70), .int .u8 (c 71)]) (.int .i64 1)).run Tryd.prog w = .ok (.int .u8 (c 67)) w := fun _ => by kernel_rfl
              have E2 := Lib.hid (show h = Y.heldTo c 1 from HH.out)
              have E3 := HHb.out 2 (by omega)
              have E4 := Lib.hid (show 0 ≤ h + c 67 ∧ h + c 67 ≤ 255 * 12 by have := e1.out; rw [E2.out]; omega)
              clear E3
              go_wp2
              go_round
              case rel => exact ⟨2, by omega, rfl, ⟨h + c 67, by go_num, E4.out.1, E4.out.2, by rw [if_neg (by omega)]; have := e1.out; rw [E2.out]; exact this.symm⟩, fun _ => HZ2.out (by omega)⟩
              case measure => simp [intOf]
            · have hix : ∀ w, (Instr.index 24 (.agg #[.int .u8 (c 66), .int .u8 (c 67), .int .u8 (c 68), .int .u8 (c 69), .int .u8 (c 70), .int .u8 (c 71)]) (.int .i64 2)).run Tryd.prog w = .ok (.int .u8 (c 68)) w := fun _ => by kernel_rfl
              have E2 := Lib.hid (show h = Y.heldTo c 2 from HH.out)
              have E3 := HHb.out 3 (by omega)
              have E4 := Lib.hid (show 0 ≤ h + c 68 ∧ h + c 68 ≤ 255 * 12 by have := e2.out; rw [E2.out]; omega)
              clear E3
              go_wp2
              go_round
              case rel => exact ⟨3, by omega, rfl, ⟨h + c 68, by go_num, E4.out.1, E4.out.2, by rw [if_neg (by omega)]; have := e2.out; rw [E2.out]; exact this.symm⟩, fun _ => HZ2.out (by omega)⟩
              case measure => simp [intOf]
            · have hix : ∀ w, (Instr.index 24 (.agg #[.int .u8 (c 66), .int .u8 (c 67), .int .u8 (c 68), .int .u8 (c 69), .int .u8 (c 70), .int .u8 (c 71)]) (.int .i64 3)).run Tryd.prog w = .ok (.int .u8 (c 69)) w := fun _ => by kernel_rfl
              have E2 := Lib.hid (show h = Y.heldTo c 3 from HH.out)
              have E3 := HHb.out 4 (by omega)
              have E4 := Lib.hid (show 0 ≤ h + c 69 ∧ h + c 69 ≤ 255 * 12 by have := e3.out; rw [E2.out]; omega)
              clear E3
              go_wp2
              go_round
              case rel => exact ⟨4, by omega, rfl, ⟨h + c 69, by go_num, E4.out.1, E4.out.2, by rw [if_neg (by omega)]; have := e3.out; rw [E2.out]; exact this.symm⟩, fun _ => HZ2.out (by omega)⟩
              case measure => simp [intOf]
            · have hix : ∀ w, (Instr.index 24 (.agg #[.int .u8 (c 66), .int .u8 (c 67), .int .u8 (c 68), .int .u8 (c 69), .int .u8 (c 70), .int .u8 (c 71)]) (.int .i64 4)).run Tryd.prog w = .ok (.int .u8 (c 70)) w := fun _ => by kernel_rfl
              have E2 := Lib.hid (show h = Y.heldTo c 4 from HH.out)
              have E3 := HHb.out 5 (by omega)
              have E4 := Lib.hid (show 0 ≤ h + c 70 ∧ h + c 70 ≤ 255 * 12 by have := e4.out; rw [E2.out]; omega)
              clear E3
              go_wp2
              go_round
              case rel => exact ⟨5, by omega, rfl, ⟨h + c 70, by go_num, E4.out.1, E4.out.2, by rw [if_neg (by omega)]; have := e4.out; rw [E2.out]; exact this.symm⟩, fun _ => HZ2.out (by omega)⟩
              case measure => simp [intOf]
            · have hix : ∀ w, (Instr.index 24 (.agg #[.int .u8 (c 66), .int .u8 (c 67), .int .u8 (c 68), .int .u8 (c 69), .int .u8 (c 70), .int .u8 (c 71)]) (.int .i64 5)).run Tryd.prog w = .ok (.int .u8 (c 71)) w := fun _ => by kernel_rfl
              have E2 := Lib.hid (show h = Y.heldTo c 5 from HH.out)
              have E3 := HHb.out 6 (by omega)
              have E4 := Lib.hid (show 0 ≤ h + c 71 ∧ h + c 71 ≤ 255 * 12 by have := e5.out; rw [E2.out]; omega)
              clear E3
              go_wp2
              go_round
              case rel => exact ⟨6, by omega, rfl, ⟨h + c 71, by go_num, E4.out.1, E4.out.2, by rw [if_neg (by omega)]; have := e5.out; rw [E2.out]; exact this.symm⟩, fun _ => HZ2.out (by omega)⟩
              case measure => simp [intOf]
            · have E2 := Lib.hid (show h = Y.heldTo c 6 from HH.out)
              have E5 := Lib.hid (HZ2.out (by omega))
              go_wp2
              go_roundw
              case rel => exact ⟨1, by omega, rfl, by rw [E2.out], (fun _ => E5.out), (fun h => by omega), by first | exact hbr | exact hbr.alloc hbr.size _⟩
              case measure => simp [intOf]
        · have hi := pkL_index c 1 (by omega)
          obtain ⟨a0, b0⟩ := HPb.out 6 (by omega)
          obtain ⟨a1, b1⟩ := HPb.out 7 (by omega)
          obtain ⟨a2, b2⟩ := HPb.out 8 (by omega)
          obtain ⟨a3, b3⟩ := HPb.out 9 (by omega)
          obtain ⟨a4, b4⟩ := HPb.out 10 (by omega)
          obtain ⟨a5, b5⟩ := HPb.out 11 (by omega)
          have e0 := Lib.hid (show Y.heldTo c 7 = Y.heldTo c 6 + c 72 from rfl)
          have e1 := Lib.hid (show Y.heldTo c 8 = Y.heldTo c 7 + c 73 from rfl)
          have e2 := Lib.hid (show Y.heldTo c 9 = Y.heldTo c 8 + c 74 from rfl)
          have e3 := Lib.hid (show Y.heldTo c 10 = Y.heldTo c 9 + c 75 from rfl)
          have e4 := Lib.hid (show Y.heldTo c 11 = Y.heldTo c 10 + c 76 from rfl)
          have e5 := Lib.hid (show Y.heldTo c 12 = Y.heldTo c 11 + c 77 from rfl)
          obtain ⟨l0, l1⟩ := HHb.out 6 (by omega)
          change 0 ≤ c 72 at a0
          change c 72 ≤ 255 at b0
          change 0 ≤ c 73 at a1
          change c 73 ≤ 255 at b1
          change 0 ≤ c 74 at a2
          change c 74 ≤ 255 at b2
          change 0 ≤ c 75 at a3
          change c 75 ≤ 255 at b3
          change 0 ≤ c 76 at a4
          change c 76 ≤ 255 at b4
          change 0 ≤ c 77 at a5
          change c 77 ≤ 255 at b5
          have hi2 : ∀ w, (Instr.index 25 (.agg (pkL c).toArray) (.int .i64 1)).run Tryd.prog w = .ok (.agg #[.int .u8 (c 72), .int .u8 (c 73), .int .u8 (c 74), .int .u8 (c 75), .int .u8 (c 76), .int .u8 (c 77)]) w := fun w => hi w
          clear hi
          rw [show 6 * 1 = 6 from rfl]
          obtain ⟨h0, hh0⟩ : ∃ h0, Y.heldTo c 6 = h0 := ⟨_, rfl⟩
          rw [hh0] at l0 l1 ⊢
          rw [hh0] at e0
          clear hh0
          go_wp2
          go_loop [3, 64] (fun p i => ∃ k : Nat, k ≤ 6 ∧ i = .int .i64 (k : Int) ∧ (∃ h : Int, p = .int .i64 ((M : Int) + h) ∧ 0 ≤ h ∧ h ≤ 255 * 12 ∧ h = (if k = 0 then h0 else Y.heldTo c (6 + k))) ∧ (1 ≤ k → c 72 = 0)) (fun _ i => 6 - (intOf i).toNat)
          case atStart => exact ⟨0, Nat.zero_le _, rfl, ⟨h0, rfl, l0, by omega, rfl⟩, fun h => by omega⟩
          case round =>
            obtain ⟨k, hk, rfl, ⟨h, rfl, n0, n1, hh⟩, hz⟩ := hrel
            have HH := Lib.hid hh
            have HZ2 := Lib.hid hz
            clear hh hz
            rcases (show k = 0 ∨ k = 1 ∨ k = 2 ∨ k = 3 ∨ k = 4 ∨ k = 5 ∨ k = 6 by omega) with rfl | rfl | rfl | rfl | rfl | rfl | rfl
            · have hix : ∀ w, (Instr.index 24 (.agg #[.int .u8 (c 72), .int .u8 (c 73), .int .u8 (c 74), .int .u8 (c 75), .int .u8 (c 76), .int .u8 (c 77)]) (.int .i64 0)).run Tryd.prog w = .ok (.int .u8 (c 72)) w := fun _ => by kernel_rfl
              by_cases hp0 : 0 < c 72
              · have d1 : decide (0 < c 72) = true := decide_eq_true hp0
                have E := Lib.hid (Y.pockets_no0 H2.out (.inr (show c 72 ≠ 0 by omega)))
                go_wp2
                go_ret
                exact ⟨ret_bool E.out.symm, by first | exact hbr | exact below_next hbr ((Below.refl _ _).alloc (Nat.le_refl _) _) | exact hbr.alloc hbr.size _⟩
              · have d1 : decide (0 < c 72) = false := decide_eq_false hp0
                have E := Lib.hid (show c 72 = 0 by omega)
                have E2 := Lib.hid (show h = h0 from HH.out)
                go_wp2
                go_round
                case rel => exact ⟨1, by omega, rfl, ⟨h + c 72, by go_num, by omega, by have := E2.out; omega, by rw [if_neg (by omega)]; have := e0.out; rw [E2.out]; exact this.symm⟩, fun _ => E.out⟩
                case measure => simp [intOf]
            · have hix : ∀ w, (Instr.index 24 (.agg #[.int .u8 (c 72), .int .u8 (c 73), .int .u8 (c 74), .int .u8 (c 75), .int .u8 (c 76), .int .u8 (c 77)]) (.int .i64 1)).run Tryd.prog w = .ok (.int .u8 (c 73)) w := fun _ => by kernel_rfl
              have E2 := Lib.hid (show h = Y.heldTo c 7 from HH.out)
              have E3 := HHb.out 8 (by omega)
              have E4 := Lib.hid (show 0 ≤ h + c 73 ∧ h + c 73 ≤ 255 * 12 by have := e1.out; rw [E2.out]; omega)
              clear E3
              go_wp2
              go_round
              case rel => exact ⟨2, by omega, rfl, ⟨h + c 73, by go_num, E4.out.1, E4.out.2, by rw [if_neg (by omega)]; have := e1.out; rw [E2.out]; exact this.symm⟩, fun _ => HZ2.out (by omega)⟩
              case measure => simp [intOf]
            · have hix : ∀ w, (Instr.index 24 (.agg #[.int .u8 (c 72), .int .u8 (c 73), .int .u8 (c 74), .int .u8 (c 75), .int .u8 (c 76), .int .u8 (c 77)]) (.int .i64 2)).run Tryd.prog w = .ok (.int .u8 (c 74)) w := fun _ => by kernel_rfl
              have E2 := Lib.hid (show h = Y.heldTo c 8 from HH.out)
              have E3 := HHb.out 9 (by omega)
              have E4 := Lib.hid (show 0 ≤ h + c 74 ∧ h + c 74 ≤ 255 * 12 by have := e2.out; rw [E2.out]; omega)
              clear E3
              go_wp2
              go_round
              case rel => exact ⟨3, by omega, rfl, ⟨h + c 74, by go_num, E4.out.1, E4.out.2, by rw [if_neg (by omega)]; have := e2.out; rw [E2.out]; exact this.symm⟩, fun _ => HZ2.out (by omega)⟩
              case measure => simp [intOf]
            · have hix : ∀ w, (Instr.index 24 (.agg #[.int .u8 (c 72), .int .u8 (c 73), .int .u8 (c 74), .int .u8 (c 75), .int .u8 (c 76), .int .u8 (c 77)]) (.int .i64 3)).run Tryd.prog w = .ok (.int .u8 (c 75)) w := fun _ => by kernel_rfl
              have E2 := Lib.hid (show h = Y.heldTo c 9 from HH.out)
              have E3 := HHb.out 10 (by omega)
              have E4 := Lib.hid (show 0 ≤ h + c 75 ∧ h + c 75 ≤ 255 * 12 by have := e3.out; rw [E2.out]; omega)
              clear E3
              go_wp2
              go_round
              case rel => exact ⟨4, by omega, rfl, ⟨h + c 75, by go_num, E4.out.1, E4.out.2, by rw [if_neg (by omega)]; have := e3.out; rw [E2.out]; exact this.symm⟩, fun _ => HZ2.out (by omega)⟩
              case measure => simp [intOf]
            · have hix : ∀ w, (Instr.index 24 (.agg #[.int .u8 (c 72), .int .u8 (c 73), .int .u8 (c 74), .int .u8 (c 75), .int .u8 (c 76), .int .u8 (c 77)]) (.int .i64 4)).run Tryd.prog w = .ok (.int .u8 (c 76)) w := fun _ => by kernel_rfl
              have E2 := Lib.hid (show h = Y.heldTo c 10 from HH.out)
              have E3 := HHb.out 11 (by omega)
              have E4 := Lib.hid (show 0 ≤ h + c 76 ∧ h + c 76 ≤ 255 * 12 by have := e4.out; rw [E2.out]; omega)
              clear E3
              go_wp2
              go_round
              case rel => exact ⟨5, by omega, rfl, ⟨h + c 76, by go_num, E4.out.1, E4.out.2, by rw [if_neg (by omega)]; have := e4.out; rw [E2.out]; exact this.symm⟩, fun _ => HZ2.out (by omega)⟩
              case measure => simp [intOf]
            · have hix : ∀ w, (Instr.index 24 (.agg #[.int .u8 (c 72), .int .u8 (c 73), .int .u8 (c 74), .int .u8 (c 75), .int .u8 (c 76), .int .u8 (c 77)]) (.int .i64 5)).run Tryd.prog w = .ok (.int .u8 (c 77)) w := fun _ => by kernel_rfl
              have E2 := Lib.hid (show h = Y.heldTo c 11 from HH.out)
              have E3 := HHb.out 12 (by omega)
              have E4 := Lib.hid (show 0 ≤ h + c 77 ∧ h + c 77 ≤ 255 * 12 by have := e5.out; rw [E2.out]; omega)
              clear E3
              go_wp2
              go_round
              case rel => exact ⟨6, by omega, rfl, ⟨h + c 77, by go_num, E4.out.1, E4.out.2, by rw [if_neg (by omega)]; have := e5.out; rw [E2.out]; exact this.symm⟩, fun _ => HZ2.out (by omega)⟩
              case measure => simp [intOf]
            · have E2 := Lib.hid (show h = Y.heldTo c 12 from HH.out)
              have E5 := Lib.hid (HZ2.out (by omega))
              go_wp2
              go_roundw
              case rel => exact ⟨2, by omega, rfl, by rw [E2.out], (fun _ => HZ.out.1 (by omega)), (fun h => E5.out), by first | exact hbr | exact hbr.alloc hbr.size _⟩
              case measure => simp [intOf]
        · have E := Lib.hid (Y.pockets_yes H2.out HB.out (HZ.out.1 (by omega)) (HZ.out.2 (by omega)))
          rw [HMM.out] at E
          go_wp2
          go_ret
          exact ⟨ret_bool E.out.symm, hbr⟩

theorem vpockets_any (c : Nat → Int) (w : World) (hc : PosOk c) :
    Calls Tryd.prog 66 #[.agg (posC c)] w fun e w' => e = .returned (.bool (Y.pockets c)) ∧ Below w.heap.size w w' := by
  by_cases h2 : c 0 = 2
  · exact vpockets_yes c w hc h2
  · exact vpockets_no c w hc h2
end Go.Proofs.YtlphjjekamhnlaaDoor
