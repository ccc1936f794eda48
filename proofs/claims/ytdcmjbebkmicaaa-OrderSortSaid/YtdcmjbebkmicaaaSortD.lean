/- slices' stable sorting at structs of k cells: the merge of two runs where the first holds one. -/
import Derived.Test.YtdcmjbebkmicaaaSortC
namespace Go.Proofs.Ytdcmjbebkmicaaa
open Go.Shelf Go.RowKit Go.Lib Go.Sort
variable {P : Program} {α : Type} [Inhabited α]

set_option maxHeartbeats 4000000 in
set_option maxRecDepth 1000000 in
theorem symUp_w (k : Nat) (L : StL P k) (enc : α → List Value) (hk : ∀ x, (enc x).length = k) (he : ∀ x, ∀ v ∈ enc x, v.oneCell' = true) (cf : α → α → Int) (o : Nat → α) (R : Nat → Nat → Prop) (hT : Stab.Tells R (ltOf cf) o) (N : Nat) (g : Nat → Nat) (blk off cap a m b : Nat) (f : Nat) (cb : Array Value) (w0 : World) (m0 : Nat) (os : Array Obj) (d0 : Array α)
    (ef : ∀ args w, (callFunc f args).run P w = .ok (.enter f args) w) (hcmp : CmpLays P f cb enc k cf blk off N w0)
    (hH : HoldsK enc k w0 blk off d0) (hd : d0.size = N) (hblk : blk < w0.heap.size) (hN : N < 4611686018427387904) (hm : m = a + 1) (h2 : a + 1 < b) (h3 : b ≤ N) (hs : Stab.Srt R g (a + 1) b) (hx : ∀ y, a + 1 ≤ y → y < b → g a < g y) :
    Calls P 73 #[.slice (some ⟨blk, off, none⟩) N cap, .int .i64 (a : Int), .int .i64 (m : Int), .int .i64 (b : Int), .func (.func f) #[] cb] (sortWorldK enc k w0 blk off m0 (Stab.row o N g) os) fun e w' => e = .returned (.tuple #[]) ∧ ∃ g', Stab.Prm a b g g' ∧ Stab.Srt R g' a b ∧ ∃ m' os', w' = sortWorldK enc k w0 blk off m' (Stab.row o N g') os' := by
  have mixed := L.mixed; have t0 := L.t0; have a0 := L.a0; have z0 := L.z0; have v0 := L.v0; have t3 := L.t3; have a3 := L.a3; have z3 := L.z3; have v3 := L.v3; have t4 := L.t4; have a4 := L.a4; have z4 := L.z4; have v4 := L.v4
  have tS := L.tS; have aS := L.aS; have zS := L.zS; have vS := L.vS; have tC := L.tC; have aC := L.aC; have zC := L.zC; have vC := L.vC; have aE := L.aE; have zE := L.zE; have tU := L.tU; have aU := L.aU; have zU := L.zU; have vU := L.vU
  have uS := run_underlying L.tS
  have HC : Aside _ := hcmp
  have HH := Lib.hid hH
  have Hd := Lib.hid hd
  have HK := Lib.hid hk
  have H1 := Lib.hid he
  have HT := Lib.hid hT
  have HS := Lib.hid (And.intro hs hx)
  clear hcmp hH hd hk he hs hx hT
  obtain ⟨W, hW⟩ : ∃ W, sortWorldK enc k w0 blk off m0 (Stab.row o N g) os = W := ⟨_, rfl⟩
  rw [hW]
  have HW := Lib.hid hW
  clear hW
  have hma : IntKind.i64.wrap ((m : Int) - (a : Int)) = 1 := by rw [IntKind.wrap_i64]; omega
  have Hm := Lib.hid hm
  have hmi : a + 1 ≤ m ∧ m ≤ b := by omega
  clear hm
  go_enter L.fSym, Try.ntmps73
  go_wp2
  go_loopw [10, 11] (fun vi vj wr => ∃ (i j m' : Nat) (os' : Array Obj), vi = .int .i64 (i : Int) ∧ vj = .int .i64 (j : Int) ∧ a + 1 ≤ i ∧ i ≤ j ∧ j ≤ b ∧ (∀ c, a + 1 ≤ c → c < i → R (g c) (g a)) ∧ (∀ c, j ≤ c → c < b → R (g a) (g c)) ∧ wr = sortWorldK enc k w0 blk off m' (Stab.row o N g) os') (fun vi vj _ => (intOf vj).toNat - (intOf vi).toNat)
  case atStart => exact ⟨m, b, m0, os, rfl, rfl, hmi.1, hmi.2, Nat.le_refl _, fun c _ _ => by have := Hm.out; omega, fun c _ _ => by omega, HW.out.symm⟩
  case round =>
    obtain ⟨i, j, m', os', rfl, rfl, hi, hij, hj, hlo, hhi, rfl⟩ := hrel
    have HL := Lib.hid (And.intro hlo hhi)
    clear hlo hhi
    by_cases hlt : i < j
    · obtain ⟨h, hh⟩ : ∃ h, (i + j) / 2 = h := ⟨_, rfl⟩
      have e1 : IntKind.i64.wrap ((i : Int) + (j : Int)) = (i : Int) + (j : Int) := by rw [IntKind.wrap_i64]; omega
      have hltI : (i : Int) < (j : Int) := by omega
      have e2 : IntKind.u64.wrap ((i : Int) + (j : Int)) = (i : Int) + (j : Int) := by unfold IntKind.wrap; simp [IntKind.bits, IntKind.signed]; omega
      have e3 : ((i : Int) + (j : Int)) / 2 = (h : Int) := by omega
      have hhN : (h : Int) < (N : Int) := by omega
      have haN : (a : Int) < (N : Int) := by omega
      have hh2 : i ≤ h ∧ h < j := by omega
      have e4 : IntKind.i64.wrap ((h : Int) + 1) = ((h + 1 : Nat) : Int) := by rw [IntKind.wrap_i64]; omega
      clear hh
      obtain ⟨xx, hxx⟩ : ∃ z9, (Stab.row o N g)[h]! = z9 := ⟨_, rfl⟩
      obtain ⟨xy, hxy⟩ : ∃ z9, (Stab.row o N g)[a]! = z9 := ⟨_, rfl⟩
      have hsz := Stab.row_size o N g
      have hcls : ∀ n' os'', grow ((sortWorldK enc k w0 blk off m' (Stab.row o N g) os').drewN n') os'' = sortWorldK enc k w0 blk off (m' + n') (Stab.row o N g) (os' ++ os'') := fun n' os'' => sortWorldK_grown_c enc k w0 blk off m' n' _ os' os''
      have hHc : ∀ n' os'', HoldsK enc k (grow ((sortWorldK enc k w0 blk off m' (Stab.row o N g) os').drewN n') os'') blk off (Stab.row o N g) := fun n' os'' => by rw [hcls]; exact holdsK_sortWorldK_c enc k w0 blk off d0 _ _ _ HH.out hblk (by rw [hsz, Hd.out])
      have lx : ∀ n' os'', Sem.run P (loadCellsFrom ⟨blk, off + (h) * k, none⟩ 0 k #[]) (grow ((sortWorldK enc k w0 blk off m' (Stab.row o N g) os').drewN n') os'') = .ok (enc xx).toArray (grow ((sortWorldK enc k w0 blk off m' (Stab.row o N g) os').drewN n') os'') := fun n' os'' => by
        rw [← hxx]; exact run_loadCellsFrom_list P _ _ _ k (HK.out _) (HoldsK.cells (hHc n' os'') HK.out (by rw [hsz]; omega))
      have ly : ∀ n' os'', Sem.run P (loadCellsFrom ⟨blk, off + (a) * k, none⟩ 0 k #[]) (grow ((sortWorldK enc k w0 blk off m' (Stab.row o N g) os').drewN n') os'') = .ok (enc xy).toArray (grow ((sortWorldK enc k w0 blk off m' (Stab.row o N g) os').drewN n') os'') := fun n' os'' => by
        rw [← hxy]; exact run_loadCellsFrom_list P _ _ _ k (HK.out _) (HoldsK.cells (hHc n' os'') HK.out (by rw [hsz]; omega))
      have hcg : ∀ n' os'', Calls P f (#[.agg (enc xx).toArray, .agg (enc xy).toArray] ++ cb) (grow ((sortWorldK enc k w0 blk off m' (Stab.row o N g) os').drewN n') os'') fun e w' => e = .returned (.int .i64 (cf xx xy)) ∧ ∃ q os3, w' = grow ((grow ((sortWorldK enc k w0 blk off m' (Stab.row o N g) os').drewN n') os'').drewN q) os3 := fun n' os'' => by
        rw [hcls]; exact HC.out _ _ _ (by rw [hsz]) xx xy
      rw [Stab.row_at o N _ _ (by omega)] at hxx hxy
      have CLS := Lib.hid hcls
      have HXY := Lib.hid (And.intro hxx hxy)
      clear hcls hHc hxx hxy hsz
      generalize hwq : sortWorldK enc k w0 blk off m' (Stab.row o N g) os' = wq at lx ly hcg CLS ⊢
      clear hwq
      by_cases hlv : cf xx xy < 0
      · have Hr := Lib.hid (show R (g h) (g a) from HT.out.yes _ _ (HS.out.2 h (by omega) (by omega)) (by unfold ltOf; rw [HXY.out.1, HXY.out.2]; exact decide_eq_true hlv))
        go_wp2_with fail
        go_quiet_grown (first | (go_at_fn f; refine Calls.grown_of (hcg _ _)))
        go_wp2
        refine ⟨⟨h + 1, j, _, _, by go_num, rfl, by omega, by omega, hj, fun c c1 c2 => ?_, HL.out.2, CLS.out nq osq⟩, by simp [intOf]; omega⟩
        rcases HS.out.1.le (show a + 1 ≤ c by omega) (show c ≤ h by omega) (by omega) with e | e
        · rw [e]; exact Hr.out
        · exact HT.out.ord.trans _ _ _ e Hr.out
      · have Hr := Lib.hid (show R (g a) (g h) from HT.out.no _ _ (HS.out.2 h (by omega) (by omega)) (by unfold ltOf; rw [HXY.out.1, HXY.out.2]; exact decide_eq_false hlv))
        go_wp2_with fail
        go_quiet_grown (first | (go_at_fn f; refine Calls.grown_of (hcg _ _)))
        go_wp2
        refine ⟨⟨i, h, _, _, rfl, rfl, hi, by omega, by omega, HL.out.1, fun c c1 c2 => ?_, CLS.out nq osq⟩, by simp [intOf]; omega⟩
        rcases HS.out.1.le (show a + 1 ≤ h by omega) c1 c2 with e | e
        · rw [← e]; exact Hr.out
        · exact HT.out.ord.trans _ _ _ Hr.out e
    · obtain rfl : i = j := by omega
      have hltI : ¬ (i : Int) < (i : Int) := by omega
      have e1 : IntKind.i64.wrap ((i : Int) - 1) = ((i - 1 : Nat) : Int) := by rw [IntKind.wrap_i64]; omega
      obtain ⟨wq, hwq⟩ : ∃ wq, sortWorldK enc k w0 blk off m' (Stab.row o N g) os' = wq := ⟨_, rfl⟩
      rw [hwq]
      have HW2 := Lib.hid hwq
      clear hwq hlt
      have hai : a + 1 ≤ i := hi
      have hib : i ≤ b := hj
      go_wp2
      go_loopw [13] (fun vk wr => ∃ (q m' : Nat) (os' : Array Obj), vk = .int .i64 (q : Int) ∧ a ≤ q ∧ q + 1 ≤ i ∧ wr = sortWorldK enc k w0 blk off m' (Stab.row o N (Stab.rot g a (a + 1) (q + 1))) os') (fun vk _ => i - (intOf vk).toNat)
      case atStart => exact ⟨a, m', os', rfl, Nat.le_refl _, hai, by rw [Stab.rot_none g a (a + 1) (a + 1) (.inr rfl) (by omega) (by omega)]; exact HW2.out.symm⟩
      case round =>
        obtain ⟨q, m', os', rfl, hq, hqi, rfl⟩ := hrel
        by_cases hqt : q + 1 < i
        · have hqtI : (q : Int) < ((i - 1 : Nat) : Int) := by omega
          have e5 : IntKind.i64.wrap ((q : Int) + 1) = (q : Int) + 1 := by rw [IntKind.wrap_i64]; omega
          have q0 : (0 : Int) ≤ (q : Int) + 1 := by omega
          have q1 : (q : Int) + 1 < (N : Int) := by omega
          have q2 : (q : Int) < (N : Int) := by omega
          have q3 : ((q : Int) + 1).toNat = q + 1 := by omega
          obtain ⟨xa, hxa⟩ : ∃ z9, (Stab.row o N (Stab.rot g a (a + 1) (q + 1)))[q]! = z9 := ⟨_, rfl⟩
          obtain ⟨xb, hxb⟩ : ∃ z9, (Stab.row o N (Stab.rot g a (a + 1) (q + 1)))[q + 1]! = z9 := ⟨_, rfl⟩
          have hsz := Stab.row_size o N (Stab.rot g a (a + 1) (q + 1))
          obtain ⟨wq, hwq⟩ : ∃ wq, sortWorldK enc k w0 blk off m' (Stab.row o N (Stab.rot g a (a + 1) (q + 1))) os' = wq := ⟨_, rfl⟩
          rw [hwq]
          have Hwq := Lib.hid hwq
          clear hwq
          have hHq : HoldsK enc k wq blk off (Stab.row o N (Stab.rot g a (a + 1) (q + 1))) := by rw [← Hwq.out]; exact holdsK_sortWorldK_c enc k w0 blk off d0 _ _ _ HH.out hblk (by rw [hsz, Hd.out])
          have hHd : HoldsK enc k wq.drew blk off (Stab.row o N (Stab.rot g a (a + 1) (q + 1))) := hHq
          have bnd : ∀ x, x < N → x * k + k ≤ N * k := fun x hx => by
            have := Nat.mul_le_mul_right k (show x + 1 ≤ N from hx); rwa [Nat.add_mul, Nat.one_mul] at this
          have la : Sem.run P (loadCellsFrom ⟨blk, off + (q) * k, none⟩ 0 k #[]) wq.drew = .ok (enc xa).toArray wq.drew := by rw [← hxa]; exact run_loadCellsFrom_list _ _ _ _ k (HK.out _) (HoldsK.cells hHd HK.out (by rw [hsz]; omega))
          have lb : Sem.run P (loadCellsFrom ⟨blk, off + (q + 1) * k, none⟩ 0 k #[]) wq.drew = .ok (enc xb).toArray wq.drew := by rw [← hxb]; exact run_loadCellsFrom_list _ _ _ _ k (HK.out _) (HoldsK.cells hHd HK.out (by rw [hsz]; omega))
          have s1 : Sem.run P (storeCells ⟨blk, off + (q) * k, none⟩ (enc xb) 0) wq.drew = .ok () (wq.drew.setCells blk (off + (q) * k) (enc xb)) := stores_of_holds _ hHd ((q) * k) _ (by rw [HK.out, size_flatK, hsz]; exact bnd (q) (by omega)) (H1.out _)
          have s2 : Sem.run P (storeCells ⟨blk, off + (q + 1) * k, none⟩ (enc xa) 0) (wq.drew.setCells blk (off + (q) * k) (enc xb)) = .ok () ((wq.drew.setCells blk (off + (q) * k) (enc xb)).setCells blk (off + (q + 1) * k) (enc xa)) :=
            stores_of_holds _ (holds_setCells_c hHd ((q) * k) _ (by rw [HK.out, size_flatK, hsz]; exact bnd (q) (by omega))) ((q + 1) * k) _ (by rw [HK.out, size_setMany, size_flatK, hsz]; exact bnd (q + 1) (by omega)) (H1.out _)
          have hsA : (enc xa).length = k := HK.out _
          have hsB : (enc xb).length = k := HK.out _
          have HX := Lib.hid (And.intro hxa hxb)
          clear hxa hxb hHq hHd bnd hsz
          obtain ⟨cA, hcA⟩ : ∃ c, c = enc xa := ⟨_, rfl⟩
          obtain ⟨cB, hcB⟩ : ∃ c, c = enc xb := ⟨_, rfl⟩
          rw [← hcA] at la s2 hsA
          rw [← hcB] at lb s1 s2 hsB
          have CC := Lib.hid (And.intro hcA hcB)
          clear hcA hcB
          go_wp2_with fail
          go_big_region_o
          all_goals go_wp2
          go_roundw
          case measure => simp [intOf]; omega
          case rel =>
            refine ⟨q + 1, m' + 1, os', by go_num, by omega, by omega, ?_⟩
            rw [CC.out.1, CC.out.2, ← Hwq.out, ← HX.out.1, ← HX.out.2, ← Stab.rot_up g a q hq, ← Stab.row_swp o N _ q (q + 1) (by omega) (by omega)]
            exact sortWorldK_swp_c enc k w0 blk off HK.out m' _ os' hblk q (q + 1) (by rw [Stab.row_size]; omega) (by rw [Stab.row_size]; omega)
        · have hqi2 : i - 1 = q := by omega
          have hqtI : ¬ (q : Int) < ((i - 1 : Nat) : Int) := by omega
          have HE := Lib.hid (show q + 1 = i by omega)
          clear hqt hqi2
          go_wp2
          refine bodyPost_ret (results_none rfl _ _ _) rfl ?_
          exact ⟨rfl, _, (Stab.Prm.rot g a (a + 1) i (by omega) (by omega)).mono (Nat.le_refl _) hib, Stab.ins_up i hai hib HS.out.1 HL.out.1 HL.out.2, m', os', by rw [HE.out]⟩

end Go.Proofs.Ytdcmjbebkmicaaa
