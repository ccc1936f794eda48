/- Several texts in one: Taken. -/

import Derived.Test.YtgkndhpolcnjbaaGreatDoorQo
import Derived.Test.YtgkndhpolcnjbaaGreatDoorQl
import Derived.Test.YtgkndhpolcnjbaaGreatDoorQd
namespace Go.Proofs.YtgkndhpolcnjbaaGreatDoor
open Go.RowKit Go.Sort
namespace Z
/-- What a move takes. -/
def taken (c : Nat → Int) (m : Mv) : Int :=
  if m ∈ D.lst c then (if bit (oth c) m.2.1.toNat = true then m.2.1 else if P.kind (c (1 + m.1.toNat)) = 1 ∧ m.1 % 8 ≠ m.2.1 % 8 then ahead (1 - (c 78).toNat) m.2.1 else -1) else -1
end Z
theorem lst_sq (c : Nat → Int) (m : Mv) (h : m ∈ D.lst c) : Z.ok c = true ∧ ∃ a b k : Nat, a < 64 ∧ b < 64 ∧ m = Z.mv a b k := by
  unfold D.lst at h
  split at h
  · rename_i hok
    obtain ⟨a, b, ha, hb, _, he⟩ := (mem_list13 ..).1 h
    obtain ⟨k, rfl, _⟩ := (mem_each ..).1 he
    exact ⟨hok, a, b, k, ha, hb, rfl⟩
  · cases h
theorem lst_len (c : Nat → Int) : (D.lst c).length ≤ 30000 := by
  unfold D.lst
  split
  · have := D.rowA_len c (c 78).toNat 64
    rw [D.list_row]
    omega
  · simp
theorem M.Reads.own {w : World} {base : Nat} {v : Value} {l : List Mv} (h : w.ownsRow base 40 5 v l.length (M.cells l)) : M.Reads w v l := M.reads_own h
theorem u64_tab : ∀ b : Fin 64, IntKind.u64.wrap ((b.val : Nat) : Int) = ((b.val : Nat) : Int) := by decide +kernel
theorem u64_sq (b : Nat) (h : b < 64) : IntKind.u64.wrap (b : Int) = (b : Int) := u64_tab ⟨b, h⟩
theorem ahead_other (t b : Nat) (ht1 : t ≤ 1) (hb : b < 64) (w : World) (T : Int) (h : T = 1 - (t : Int)) : Calls Tryz.prog 71 #[.int .u8 T, .int .i64 (b : Int)] w fun e w' => e = .returned (.int .i64 (Z.ahead (1 - t) (b : Int))) ∧ w = w' := by
  have e : T = ((1 - t : Nat) : Int) := by omega
  rw [e]
  exact ahead_any (1 - t) (b : Int) w (by omega) (by omega)
theorem bit_val (x : BitVec 64) (b : Nat) (hb : b < 64) (v : Bool) (h : bit x b = v) : (U (bAnd x (B.one (b : Int))) != 0) = v := by rw [test_bit x b hb, h]
set_option maxRecDepth 100000 in
set_option maxHeartbeats 8000000 in
theorem ptaken_any (c : Nat → Int) (f g p d : Int) (ca : Bool) (w : World) (hc : PosOk c) (hT : Tb w) :
    Calls Tryz.prog 20 #[.agg (posC c), .agg #[.int .i8 f, .int .i8 g, .int .u8 p, .int .u8 d, .bool ca]] w fun e w' => e = .returned (.int .i64 (Z.taken c (f, g, p, d, ca))) ∧ Below w.heap.size w w' := by
  have hbd := pos_bd hc
  have hp := PosAt.new w c
  have hb0 : Below w.heap.size w (w.alloc (.cells (posC c) 31)) := (Below.refl _ _).alloc (Nat.le_refl _) _
  obtain ⟨W0, hW0⟩ : ∃ W0, w.alloc (.cells (posC c) 31) = W0 := ⟨_, rfl⟩
  have hs1 : W0.heap.size = w.heap.size + 1 := by rw [← hW0]; simp
  rw [hW0] at hp hb0
  have hm := RowAt.new W0 #[.int .i8 f, .int .i8 g, .int .u8 p, .int .u8 d, .bool ca] 40
  replace hp := hp.alloc (.cells #[.int .i8 f, .int .i8 g, .int .u8 p, .int .u8 d, .bool ca] 40)
  replace hb0 := hb0.alloc (by omega) (.cells #[.int .i8 f, .int .i8 g, .int .u8 p, .int .u8 d, .bool ca] 40)
  obtain ⟨W, hW⟩ : ∃ W, W0.alloc (.cells #[.int .i8 f, .int .i8 g, .int .u8 p, .int .u8 d, .bool ca] 40) = W := ⟨_, rfl⟩
  have hs0 : W.heap.size = w.heap.size + 2 := by rw [← hW]; simp; omega
  rw [hW] at hp hm hb0
  rw [hs1] at hm
  have HP := Lib.hid (And.intro hp (And.intro hm hb0))
  have HT := Lib.hid hT
  have HC := Lib.hid hc
  have hzs : (Tryz.prog.info? 94).map (·.size) = some Tryz.zeroCells94.size := by rw [Z.zero]; exact Z.info _ _ _
  clear hp hm hb0
  cases hok : Z.ok c
  · have HOf : Hid (∀ w, Calls Tryz.prog 69 #[.agg (posC c)] w fun e w' => e = .returned (.tuple #[.agg (Z.sd (fun _ => 0) 0#64 0#64), .bool false]) ∧ Below w.heap.size w w') := Lib.hid (fun w => by
      have := pof_any c w hc
      unfold Z.ofV at this
      rwa [if_neg (by rw [hok]; simp)] at this)
    have E := Lib.hid (show Z.taken c (f, g, p, d, ca) = -1 by
      unfold Z.taken
      rw [if_neg]
      intro h
      have := (lst_sq c _ h).1
      rw [hok] at this
      cases this)
    clear hok hc hT hbd
    go_enter Tryz.func20, Tryz.ntmps20
    go_wp2_with (first
      | ((with_reducible refine wp_load_box rfl _ rfl ?_); refine ⟨_, _, rfl, HP.out.1, ?_⟩)
      | (go_at_call 69; refine (HOf.out _).mono ?_; rintro e w1 ⟨rfl, hb1⟩)
      | ((with_reducible refine wp_store_row' rfl 94 _ _ rfl ?_); refine ⟨w1.heap.size, 94, Z.sd (fun _ => 0) 0#64 0#64, rfl, rfl, ⟨_, heap_alloc_new _ _, (by rw [Z.sd_size]; rfl)⟩, Z.info _ _ _, Z.sd_one _ _ _, ?_⟩; intro W2 hP2 hR2))
    have hb3 := below_next HP.out.2.2 hb1
    have HB3 := Lib.hid (hP2.below (hb3.alloc hb3.size (.cells Tryz.zeroCells94 94)) hb3.size)
    clear hb3 hP2 hR2 hb1
    go_quiet (fail)
    go_wp2
    go_ret
    exact ⟨ret_int E.out.symm, M.below_drew HB3.out _⟩
  · have HOf : Hid (∀ w, Calls Tryz.prog 69 #[.agg (posC c)] w fun e w' => e = .returned (.tuple #[.agg (Z.sd c (Z.own c) (Z.oth c)), .bool true]) ∧ Below w.heap.size w w') := Lib.hid (fun w => by
      have := pof_any c w hc
      unfold Z.ofV at this
      rwa [if_pos hok] at this)
    have hinfo : (Tryz.prog.info? 31).map (·.size) = some (posL c).length := by rw [Tryz.infoPos]; simp [posL]
    have hu := Tryz.underlying31
    have huM := Tryz.underlying40
    have hPL : Hid (∀ w, Tb w → Calls Tryz.prog 25 #[.agg (posC c)] w (Z.End (D.lst c) w)) := Lib.hid (fun w hw => plist_any c w hc hw)
    have HLL := Lib.hid (lst_len c)
    have HSQ := Lib.hid (lst_sq c (f, g, p, d, ca))
    have HTK : Hid (Z.taken c (f, g, p, d, ca) = if (f, g, p, d, ca) ∈ D.lst c then (if bit (Z.oth c) g.toNat = true then g else if P.kind (c (1 + f.toNat)) = 1 ∧ f % 8 ≠ g % 8 then Z.ahead (1 - (c 78).toNat) g else -1) else -1) := Lib.hid rfl
    obtain ⟨o, ho⟩ : ∃ o, Z.own c = o := ⟨_, rfl⟩
    obtain ⟨uo, huo⟩ : ∃ uo, Z.oth c = uo := ⟨_, rfl⟩
    rw [ho, huo] at HOf
    rw [huo] at HTK
    have HOK := Lib.hid hok
    clear hok hc hT hbd ho huo
    go_enter Tryz.func20, Tryz.ntmps20
    go_wp2_with (first
      | ((with_reducible refine wp_load_box rfl _ rfl ?_); refine ⟨_, _, rfl, HP.out.1, ?_⟩)
      | (go_at_call 69; refine (HOf.out _).mono ?_; rintro e w1 ⟨rfl, hb1⟩)
      | ((with_reducible refine wp_store_row' rfl 94 _ _ rfl ?_); refine ⟨w1.heap.size, 94, Z.sd c o uo, rfl, rfl, ⟨_, heap_alloc_new _ _, (by rw [Z.sd_size]; rfl)⟩, Z.info _ _ _, Z.sd_one _ _ _, ?_⟩; intro W2 hP2 hR2))
    have hb3 := below_next HP.out.2.2 hb1
    have hs3 := hb1.size
    have hb4 := hb3.alloc hb3.size (.cells Tryz.zeroCells94 94)
    have hSd : (fun w' => PosAt w' w.heap.size c ∧ RowAt w' (w.heap.size + 1) 40 [.int .i8 f, .int .i8 g, .int .u8 p, .int .u8 d, .bool ca].toArray ∧ RowAt w' w1.heap.size 94 (Z.sd c o uo) ∧ Below w.heap.size w w') W2.drew :=
      ⟨⟨(hP2.pos ((HP.out.1.below hb1).alloc _) (by omega)).heap⟩, ⟨(hP2.row ((HP.out.2.1.below hb1).alloc _) (by omega)).heap⟩, ⟨hR2.heap⟩, M.below_drew (hP2.below hb4 hb3.size) 1⟩
    obtain ⟨S, hS⟩ : ∃ S : World → Prop, S = fun w' => PosAt w' w.heap.size c ∧ RowAt w' (w.heap.size + 1) 40 [.int .i8 f, .int .i8 g, .int .u8 p, .int .u8 d, .bool ca].toArray ∧ RowAt w' w1.heap.size 94 (Z.sd c o uo) ∧ Below w.heap.size w w' := ⟨_, rfl⟩
    have hSb : ∀ w' w'', S w' → Below w'.heap.size w' w'' → S w'' := fun w' w'' h hb => by
      rw [hS] at h ⊢
      exact ⟨h.1.below hb, h.2.1.below hb, h.2.2.1.below hb, below_next h.2.2.2 hb⟩
    have hS1 : S W2.drew := by rw [hS]; exact hSd
    have hpr : ∀ w', S w' → w'.rangeAt w.heap.size 0 (posL c) := fun w' h => by rw [hS] at h; exact pos_range h.1.heap
    have hmr : ∀ w', S w' → w'.rangeAt (w.heap.size + 1) 0 [.int .i8 f, .int .i8 g, .int .u8 p, .int .u8 d, .bool ca] := fun w' h => by
      rw [hS] at h
      intro j v hv
      have := h.2.1.cell j
      rw [List.getElem?_toArray, hv] at this
      rw [Nat.zero_add]
      exact this
    have hTb : ∀ w', S w' → Tb w' := fun w' h => by rw [hS] at h; exact tb_below HT.out h.2.2.2
    have HS := Lib.hid hS
    clear hSd hb3 hb4 hP2 hR2 hb1 hS
    refine wp_region_held (S := S) (by kernel_rfl) ?_
    refine takeD 0 (some 13) (.bool true) (by kernel_rfl) (by kernel_rfl) (by kernel_rfl) (by kernel_rfl) (by kernel_rfl) (fun _ _ _ h => h) (yi_pure (v0 := .bool true) (by kernel_rfl) (fun _ => by kernel_rfl) rfl) hS1 ?_
    simp only [Act.put, List.setIfInBounds_toArray, List.set_cons_succ, List.set_cons_zero]
    refine takeD 1 (some 14) (.bool false) (by kernel_rfl) (by kernel_rfl) (by kernel_rfl) (by kernel_rfl) (by kernel_rfl) (fun _ _ _ h => h) (yi_pure (v0 := .bool false) (by kernel_rfl) (fun _ => by kernel_rfl) rfl) hS1 ?_
    simp only [Act.put, List.setIfInBounds_toArray, List.set_cons_succ, List.set_cons_zero]
    refine takeD 2 (some 15) (.bool false) (by kernel_rfl) (by kernel_rfl) (by kernel_rfl) (by kernel_rfl) (by kernel_rfl) (fun _ _ _ h => h) (yi_pure (v0 := .bool false) (by kernel_rfl) (fun _ => by kernel_rfl) rfl) hS1 ?_
    simp only [Act.put, List.setIfInBounds_toArray, List.set_cons_succ, List.set_cons_zero]
    refine takeD 3 (some 16) (.agg (posC c)) (by kernel_rfl) (by kernel_rfl) (by kernel_rfl) (by kernel_rfl) (by kernel_rfl) (fun _ _ _ h => h) (yieldsIf_load_mid (by kernel_rfl) 31 (.tmp 2) (by kernel_rfl) w.heap.size 0 (by kernel_rfl) (posL c) _ (fun _ h => hpr _ h) hu rfl hinfo) hS1 ?_
    simp only [Act.put, List.setIfInBounds_toArray, List.set_cons_succ, List.set_cons_zero]
    refine takeD 5 (some 18) (.agg #[.int .i8 f, .int .i8 g, .int .u8 p, .int .u8 d, .bool ca]) (by kernel_rfl) (by kernel_rfl) (by kernel_rfl) (by kernel_rfl) (by kernel_rfl) (fun _ _ _ h => h) (yieldsIf_load_mid (by kernel_rfl) 40 (.tmp 3) (by kernel_rfl) (w.heap.size + 1) 0 (by kernel_rfl) [.int .i8 f, .int .i8 g, .int .u8 p, .int .u8 d, .bool ca] _ (fun _ h => hmr _ h) huM rfl Tryz.size_Mv) hS1 ?_
    simp only [Act.put, List.setIfInBounds_toArray, List.set_cons_succ, List.set_cons_zero]
    refine wpAnyH_all (rs := [4]) (by kernel_rfl) (by simp) (fun i hi => ?_)
    obtain rfl : i = 4 := by simpa using hi
    clear hi
    refine wpOp_at rfl rfl ?_
    unfold Oper.wp
    go_simp
    refine (hPL.out _ (hTb _ hS1)).mono ?_
    rintro e u3 ⟨v3, rfl, hown3, hb⟩
    have hS3 := hSb _ _ hS1 hb
    clear hb
    refine ⟨hS3, ?_⟩
    refine wpAnyH_all (rs := [6]) (by kernel_rfl) (by simp) (fun i hi => ?_)
    obtain rfl : i = 6 := by simpa using hi
    clear hi
    refine wpOp_at rfl rfl ?_
    unfold Oper.wp
    go_simp
    refine (contains_any (D.lst c) v3 f g p d ca _ (M.reads_own hown3) (Nat.le_trans HLL.out (by decide))).mono ?_
    rintro e u4 ⟨rfl, hb⟩
    have hS4 := hSb _ _ hS3 hb
    clear hb
    refine ⟨hS4, ?_⟩
    generalize hx : decide ((f, g, p, d, ca) ∈ D.lst c) = x
    clear hown3 hS3 hS1
    cases x
    · skip
      refine takeD 7 (some 20) (.bool true) (by kernel_rfl) (by kernel_rfl) (by kernel_rfl) (by kernel_rfl) (by kernel_rfl) (fun _ _ _ h => h) (yi_pure (v0 := .bool true) (by kernel_rfl) (fun _ => by kernel_rfl) rfl) hS4 ?_
      simp only [Act.put, List.setIfInBounds_toArray, List.set_cons_succ, List.set_cons_zero]
      refine takeD 8 (some 21) (.bool true) (by kernel_rfl) (by kernel_rfl) (by kernel_rfl) (by kernel_rfl) (by kernel_rfl) (fun _ _ _ h => h) (yi_pure (v0 := .bool true) (by kernel_rfl) (fun _ => by kernel_rfl) rfl) hS4 ?_
      simp only [Act.put, List.setIfInBounds_toArray, List.set_cons_succ, List.set_cons_zero]
      refine wpAnyH_done (by kernel_rfl) ?_ _
      have E := Lib.hid (show Z.taken c (f, g, p, d, ca) = -1 by rw [HTK.out, if_neg (by simpa using hx)])
      rw [HS.out] at hS4
      have HF := Lib.hid hS4.2.2.2
      clear hx hS4 hSb hpr hmr hTb
      go_wp2
      go_ret
      exact ⟨ret_int E.out.symm, HF.out⟩
    · skip
      refine takeD 7 (some 20) (.bool false) (by kernel_rfl) (by kernel_rfl) (by kernel_rfl) (by kernel_rfl) (by kernel_rfl) (fun _ _ _ h => h) (yi_pure (v0 := .bool false) (by kernel_rfl) (fun _ => by kernel_rfl) rfl) hS4 ?_
      simp only [Act.put, List.setIfInBounds_toArray, List.set_cons_succ, List.set_cons_zero]
      refine takeD 8 (some 21) (.bool false) (by kernel_rfl) (by kernel_rfl) (by kernel_rfl) (by kernel_rfl) (by kernel_rfl) (fun _ _ _ h => h) (yi_pure (v0 := .bool false) (by kernel_rfl) (fun _ => by kernel_rfl) rfl) hS4 ?_
      simp only [Act.put, List.setIfInBounds_toArray, List.set_cons_succ, List.set_cons_zero]
      refine wpAnyH_done (by kernel_rfl) ?_ _
      obtain ⟨hok', a, b, k, ha, hb, hm⟩ := HSQ.out (by simpa using hx)
      have hmem : (f, g, p, d, ca) ∈ D.lst c := by simpa using hx
      unfold Z.mv at hm
      simp only [Prod.mk.injEq] at hm
      obtain ⟨rfl, rfl, rfl, rfl, rfl⟩ := hm
      obtain ⟨t0, t1'⟩ := pos_u8 HC.out (i := 78) (by decide) rfl
      obtain ⟨t, ht⟩ : ∃ t : Nat, c 78 = (t : Int) := ⟨(c 78).toNat, by omega⟩
      have ht1 : t ≤ 1 := by
        unfold Z.ok at hok'
        simp at hok'
        omega
      rw [HS.out] at hS4
      obtain ⟨hq1, hq2, hq3, hq4⟩ := hS4
      have m0 := hq2.cell 0
      have m1 := hq2.cell 1
      simp only [List.getElem?_toArray, List.getElem?_cons_zero, List.getElem?_cons_succ] at m0 m1
      have hoth := (hq3.cell 89).trans (Z.sd_oth c o uo)
      have hsq := bd_cell hq1.heap a ha
      have h78 := hq1.cell (i := 78) (by decide)
      rw [ht, show pk 78 = .u8 from rfl] at h78
      have hone : IntKind.u64.wrap (2 ^ b) = U (B.one b) := B.one_val b (by omega) (by omega)
      have hwb : wrap64 (b : Int) = (b : Int) := IntWalk.wrap64_in _ ⟨by omega, by omega⟩
      have hwu := u64_sq b hb
      obtain ⟨y0, y1⟩ := pos_bd HC.out a ha
      have HF := Lib.hid hq4
      obtain ⟨x, hxx⟩ : ∃ x, c (1 + a) = x := ⟨_, rfl⟩
      rw [hxx] at hsq y0 y1
      have HK : Hid (∀ w, Calls Tryz.prog 70 #[.int .u8 x] w fun e w' => e = .returned (.int .u8 (P.kind x)) ∧ w = w') := Lib.hid (fun w => kind_any x w y0 y1)
      have HAh := Lib.hid (ahead_other t b ht1 hb)
      have hwt : IntKind.u8.wrap (1 - (t : Int)) = 1 - (t : Int) := by rw [IntKind.wrap_u8]; omega
      have ra := tmod8 a
      have rb := tmod8 b
      have hTK := HTK.out
      rw [if_pos hmem, ht, Int.toNat_natCast, Int.toNat_natCast, Int.toNat_natCast, hxx] at hTK
      obtain ⟨v, hv⟩ : ∃ v, bit uo b = v := ⟨_, rfl⟩
      have hbt := bit_val uo b hb v hv
      rw [hv] at hTK
      generalize P.kind x = kk at *
      clear hq1 hq2 hq3 hq4 hmem hx hSb hpr hmr hTb hok' hxx ht hv t0 t1'
      cases v
      · rw [if_neg (by simp)] at hTK
        by_cases k1 : kk = 1
        · have d1 : (kk == 1) = true := by simpa using k1
          by_cases hf : (a : Int) % 8 = (b : Int) % 8
          · have d2 : ((a : Int) % 8 != (b : Int) % 8) = false := by simpa using hf
            have E := Lib.hid (hTK.trans (if_neg (fun h => h.2 hf)))
            clear hTK k1 hf
            go_wp2_with (go_at_call 70; refine (HK.out _).mono ?_; rintro e w7 ⟨rfl, rfl⟩)
            go_ret
            exact ⟨ret_int E.out.symm, HF.out⟩
          · have d2 : ((a : Int) % 8 != (b : Int) % 8) = true := by simpa using hf
            have E := Lib.hid (hTK.trans (if_pos ⟨k1, hf⟩))
            clear hTK k1 hf
            go_wp2_with (first
              | (go_at_call 70; refine (HK.out _).mono ?_; rintro e w7 ⟨rfl, rfl⟩)
              | (go_at_call 71; refine (HAh.out _ _ (by first | rfl | omega)).mono ?_; rintro e w7 ⟨rfl, rfl⟩))
            go_ret
            exact ⟨ret_int E.out.symm, HF.out⟩
        · have d1 : (kk == 1) = false := by simpa using k1
          have E := Lib.hid (hTK.trans (if_neg (fun h => k1 h.1)))
          clear hTK k1
          go_wp2_with (go_at_call 70; refine (HK.out _).mono ?_; rintro e w7 ⟨rfl, rfl⟩)
          go_ret
          exact ⟨ret_int E.out.symm, HF.out⟩
      · have E := Lib.hid (hTK.trans (if_pos rfl))
        clear hTK
        go_wp2
        go_ret
        exact ⟨ret_int E.out.symm, HF.out⟩
end Go.Proofs.YtgkndhpolcnjbaaGreatDoor
