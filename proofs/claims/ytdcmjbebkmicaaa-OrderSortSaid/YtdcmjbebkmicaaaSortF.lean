/- slices' stable sorting at structs of k cells: the merge of two runs, the great case. -/
import Derived.Test.YtdcmjbebkmicaaaSortE
import Derived.Test.YtdcmjbebkmicaaaStabM
namespace Go.Proofs.Ytdcmjbebkmicaaa
open Go.Shelf Go.RowKit Go.Lib Go.Sort
variable {P : Program} {α : Type} [Inhabited α]

set_option maxHeartbeats 4000000 in
set_option maxRecDepth 1000000 in
theorem symWide_w (k : Nat) (L : StL P k) (enc : α → List Value) (hk : ∀ x, (enc x).length = k) (he : ∀ x, ∀ v ∈ enc x, v.oneCell' = true) (cf : α → α → Int) (o : Nat → α) (R : Nat → Nat → Prop) (hT : Stab.Tells R (ltOf cf) o) (N : Nat) (g : Nat → Nat) (blk off cap a m b : Nat) (f : Nat) (cb : Array Value) (w0 : World) (m0 : Nat) (os : Array Obj) (d0 : Array α)
    (ef : ∀ args w, (callFunc f args).run P w = .ok (.enter f args) w) (hcmp : CmpLays P f cb enc k cf blk off N w0)
    (hH : HoldsK enc k w0 blk off d0) (hd : d0.size = N) (hblk : blk < w0.heap.size) (hN : N < 4611686018427387904) (h1 : a + 1 < m) (h2 : m + 1 < b) (h3 : b ≤ N) (hs1 : Stab.Srt R g a m) (hs2 : Stab.Srt R g m b) (hx : ∀ x y, a ≤ x → x < m → m ≤ y → y < b → g x < g y)
    (ih : ∀ (g' : Nat → Nat) (a' m' b' mm : Nat) (os' : Array Obj), a' < m' → m' < b' → b' ≤ N → b' - a' < b - a → Stab.Srt R g' a' m' → Stab.Srt R g' m' b' → (∀ x y, a' ≤ x → x < m' → m' ≤ y → y < b' → g' x < g' y) → Calls P 73 #[.slice (some ⟨blk, off, none⟩) N cap, .int .i64 (a' : Int), .int .i64 (m' : Int), .int .i64 (b' : Int), .func (.func f) #[] cb] (sortWorldK enc k w0 blk off mm (Stab.row o N g') os') fun e w' => e = .returned (.tuple #[]) ∧ ∃ g'', Stab.Prm a' b' g' g'' ∧ Stab.Srt R g'' a' b' ∧ ∃ m' os', w' = sortWorldK enc k w0 blk off m' (Stab.row o N g'') os') :
    Calls P 73 #[.slice (some ⟨blk, off, none⟩) N cap, .int .i64 (a : Int), .int .i64 (m : Int), .int .i64 (b : Int), .func (.func f) #[] cb] (sortWorldK enc k w0 blk off m0 (Stab.row o N g) os) fun e w' => e = .returned (.tuple #[]) ∧ ∃ g', Stab.Prm a b g g' ∧ Stab.Srt R g' a b ∧ ∃ m' os', w' = sortWorldK enc k w0 blk off m' (Stab.row o N g') os' := by
  have mixed := L.mixed; have t0 := L.t0; have a0 := L.a0; have z0 := L.z0; have v0 := L.v0; have t3 := L.t3; have a3 := L.a3; have z3 := L.z3; have v3 := L.v3; have t4 := L.t4; have a4 := L.a4; have z4 := L.z4; have v4 := L.v4
  have tS := L.tS; have aS := L.aS; have zS := L.zS; have vS := L.vS; have tC := L.tC; have aC := L.aC; have zC := L.zC; have vC := L.vC; have aE := L.aE; have zE := L.zE; have tU := L.tU; have aU := L.aU; have zU := L.zU; have vU := L.vU
  have uS := run_underlying L.tS
  have HC : Aside _ := hcmp
  have HH := Lib.hid hH
  have Hd := Lib.hid hd
  have HK := Lib.hid hk
  have H1 := Lib.hid he
  have HT := Lib.hid hT
  have eR : ∀ args w, (callFunc 79 args).run P w = .ok (.enter 79 args) w := enters_of L.fRot (by kernel_rfl) rfl
  have eY : ∀ args w, (callFunc 73 args).run P w = .ok (.enter 73 args) w := enters_of L.fSym (by kernel_rfl) rfl
  have HR := Lib.hid (fun (g' : Nat → Nat) (x y z m' : Nat) (os' : Array Obj) (k1 : x < y) (k2 : y < z) (k3 : z ≤ N) => rotate_w k L enc hk he o N g' blk off cap x y z f cb w0 m' os' d0 hH hd hblk hN k1 k2 k3)
  have HS := Lib.hid (And.intro hs1 (And.intro hs2 hx))
  have IH := Lib.hid ih
  clear hcmp hH hd hk he hs1 hs2 hx hT ih
  obtain ⟨W, hW⟩ : ∃ W, sortWorldK enc k w0 blk off m0 (Stab.row o N g) os = W := ⟨_, rfl⟩
  rw [hW]
  have HW := Lib.hid hW
  clear hW
  have hma : IntKind.i64.wrap ((m : Int) - (a : Int)) = ((m - a : Nat) : Int) := by rw [IntKind.wrap_i64]; omega
  have hma1 : (((m - a : Nat) : Int) == 1) = false := by simp; omega
  have hbm : IntKind.i64.wrap ((b : Int) - (m : Int)) = ((b - m : Nat) : Int) := by rw [IntKind.wrap_i64]; omega
  have hbm1 : (((b - m : Nat) : Int) == 1) = false := by simp; omega
  obtain ⟨mid, hmid⟩ : ∃ mid, (a + b) / 2 = mid := ⟨_, rfl⟩
  have e1 : IntKind.i64.wrap ((a : Int) + (b : Int)) = (a : Int) + (b : Int) := by rw [IntKind.wrap_i64]; omega
  have e2 : IntKind.u64.wrap ((a : Int) + (b : Int)) = (a : Int) + (b : Int) := by unfold IntKind.wrap; simp [IntKind.bits, IntKind.signed]; omega
  have e3 : ((a : Int) + (b : Int)) / 2 = (mid : Int) := by omega
  have hmb : a < mid ∧ mid < b := by omega
  obtain ⟨n, hn⟩ : ∃ n, mid + m = n := ⟨_, rfl⟩
  obtain ⟨p, hp⟩ : ∃ p, mid + m - 1 = p := ⟨_, rfl⟩
  have hpn : n = p + 1 := by omega
  have e4 : IntKind.i64.wrap ((mid : Int) + (m : Int)) = (n : Int) := by rw [IntKind.wrap_i64]; omega
  have e6 : IntKind.i64.wrap ((n : Int) - 1) = (p : Int) := by rw [IntKind.wrap_i64]; omega
  have Hmid := Lib.hid (And.intro hmid (And.intro hn hp))
  by_cases hmm : mid < m
  · have hmI : (mid : Int) < (m : Int) := by omega
    obtain ⟨lo, hlo⟩ : ∃ lo, mid + m - b = lo := ⟨_, rfl⟩
    obtain ⟨hi, hhi⟩ : ∃ hi, mid = hi := ⟨_, rfl⟩
    have hlh : lo ≤ hi ∧ hi ≤ m ∧ hi ≤ mid ∧ n ≤ b + lo ∧ a ≤ lo := by omega
    have elo : (if mid < m then mid + m - b else a) = lo := by rw [if_pos hmm]; exact hlo
    have ehi : (if mid < m then mid else m) = hi := by rw [if_pos hmm]; exact hhi
    have e5 : IntKind.i64.wrap ((n : Int) - (b : Int)) = (lo : Int) := by rw [IntKind.wrap_i64]; omega
    have hhi2 : mid = hi := hhi
    have HM := Lib.hid (And.intro hmm (And.intro elo ehi))
    have hnm : n = mid + m := hn.symm
    have HB := Lib.hid (And.intro hmb (And.intro hlh (And.intro hnm (And.intro hpn (And.intro h1 (And.intro h2 h3))))))
    have hbd : mid ≤ N ∧ m ≤ N ∧ n ≤ N + N ∧ lo ≤ N ∧ hi ≤ N := by omega
    clear hmm hlo elo ehi hmid hn hp hmb hlh hpn hnm h1 h2 h3
    subst hhi2
    
    go_enter L.fSym, Try.ntmps73
    go_wp2
    go_loopw [20, 21] (fun vi vj wr => ∃ (i j m' : Nat) (os' : Array Obj), vi = .int .i64 (i : Int) ∧ vj = .int .i64 (j : Int) ∧ lo ≤ i ∧ i ≤ j ∧ j ≤ mid ∧ (∀ c, lo ≤ c → c < i → R (g c) (g (p - c))) ∧ (∀ c, j ≤ c → c < mid → R (g (p - c)) (g c)) ∧ wr = sortWorldK enc k w0 blk off m' (Stab.row o N g) os') (fun vi vj _ => (intOf vj).toNat - (intOf vi).toNat)
    case atStart => exact ⟨lo, mid, m0, os, rfl, rfl, Nat.le_refl _, HB.out.2.1.1, Nat.le_refl _, fun c _ _ => by omega, fun c _ _ => by omega, HW.out.symm⟩
    case round =>
      obtain ⟨i, j, m', os', rfl, rfl, hi, hij, hj, hlo, hhi, rfl⟩ := hrel
      have HL := Lib.hid (And.intro hlo hhi)
      clear hlo hhi
      by_cases hlt : i < j
      · obtain ⟨c, hc⟩ : ∃ c, (i + j) / 2 = c := ⟨_, rfl⟩
        obtain ⟨⟨hb1, hb2⟩, ⟨hb3, hb4, hb5, hb6, hb7⟩, hb8, hb9, hb10, hb11, hb12⟩ := HB.out
        have e1 : IntKind.i64.wrap ((i : Int) + (j : Int)) = (i : Int) + (j : Int) := by rw [IntKind.wrap_i64]; omega
        have hltI : (i : Int) < (j : Int) := by omega
        have e2 : IntKind.u64.wrap ((i : Int) + (j : Int)) = (i : Int) + (j : Int) := by unfold IntKind.wrap; simp [IntKind.bits, IntKind.signed]; omega
        have e3 : ((i : Int) + (j : Int)) / 2 = (c : Int) := by omega
        have hc2 : i ≤ c ∧ c < j := by omega
        obtain ⟨q, hq⟩ : ∃ q, p - c = q := ⟨_, rfl⟩
        have hq2 : m ≤ q ∧ q < b ∧ a ≤ c ∧ c < m := by omega
        have e7 : IntKind.i64.wrap ((p : Int) - (c : Int)) = (q : Int) := by rw [IntKind.wrap_i64]; omega
        have hcN : (c : Int) < (N : Int) := by omega
        have hqN : (q : Int) < (N : Int) := by omega
        have hcN' : c < N := by omega
        have hqN' : q < N := by omega
        have e4 : IntKind.i64.wrap ((c : Int) + 1) = ((c + 1 : Nat) : Int) := by rw [IntKind.wrap_i64]; omega
        have Hq := Lib.hid (And.intro hq hq2)
        clear hc hq hb1 hb2 hb3 hb4 hb5 hb6 hb7 hb8 hb9 hb10 hb11 hb12 hq2
        obtain ⟨xx, hxx⟩ : ∃ z9, (Stab.row o N g)[q]! = z9 := ⟨_, rfl⟩
        obtain ⟨xy, hxy⟩ : ∃ z9, (Stab.row o N g)[c]! = z9 := ⟨_, rfl⟩
        have hsz := Stab.row_size o N g
        have hcls : ∀ n' os'', grow ((sortWorldK enc k w0 blk off m' (Stab.row o N g) os').drewN n') os'' = sortWorldK enc k w0 blk off (m' + n') (Stab.row o N g) (os' ++ os'') := fun n' os'' => sortWorldK_grown_c enc k w0 blk off m' n' _ os' os''
        have hHc : ∀ n' os'', HoldsK enc k (grow ((sortWorldK enc k w0 blk off m' (Stab.row o N g) os').drewN n') os'') blk off (Stab.row o N g) := fun n' os'' => by rw [hcls]; exact holdsK_sortWorldK_c enc k w0 blk off d0 _ _ _ HH.out hblk (by rw [hsz, Hd.out])
        have lx : ∀ n' os'', Sem.run P (loadCellsFrom ⟨blk, off + (q) * k, none⟩ 0 k #[]) (grow ((sortWorldK enc k w0 blk off m' (Stab.row o N g) os').drewN n') os'') = .ok (enc xx).toArray (grow ((sortWorldK enc k w0 blk off m' (Stab.row o N g) os').drewN n') os'') := fun n' os'' => by
          rw [← hxx]; exact run_loadCellsFrom_list P _ _ _ k (HK.out _) (HoldsK.cells (hHc n' os'') HK.out (by rw [hsz]; omega))
        have ly : ∀ n' os'', Sem.run P (loadCellsFrom ⟨blk, off + (c) * k, none⟩ 0 k #[]) (grow ((sortWorldK enc k w0 blk off m' (Stab.row o N g) os').drewN n') os'') = .ok (enc xy).toArray (grow ((sortWorldK enc k w0 blk off m' (Stab.row o N g) os').drewN n') os'') := fun n' os'' => by
          rw [← hxy]; exact run_loadCellsFrom_list P _ _ _ k (HK.out _) (HoldsK.cells (hHc n' os'') HK.out (by rw [hsz]; omega))
        have hcg : ∀ n' os'', Calls P f (#[.agg (enc xx).toArray, .agg (enc xy).toArray] ++ cb) (grow ((sortWorldK enc k w0 blk off m' (Stab.row o N g) os').drewN n') os'') fun e w' => e = .returned (.int .i64 (cf xx xy)) ∧ ∃ q os3, w' = grow ((grow ((sortWorldK enc k w0 blk off m' (Stab.row o N g) os').drewN n') os'').drewN q) os3 := fun n' os'' => by
          rw [hcls]; exact HC.out _ _ _ (by rw [hsz]) xx xy
        rw [Stab.row_at o N _ _ (by omega)] at hxx hxy
        have CLS := Lib.hid hcls
        have HXY := Lib.hid (And.intro hxx hxy)
        clear hcls hHc hxx hxy hsz
        generalize hwq : sortWorldK enc k w0 blk off m' (Stab.row o N g) os' = wq at lx ly hcg CLS ⊢
        clear hwq
        by_cases hlv : cf xx xy < 0
        · have Hr := Lib.hid (show R (g q) (g c) from HT.out.yes _ _ (HS.out.2.2 c q Hq.out.2.2.2.1 Hq.out.2.2.2.2 Hq.out.2.1 Hq.out.2.2.1) (by unfold ltOf; rw [HXY.out.1, HXY.out.2]; exact decide_eq_true hlv))
          have hbb : (!decide (cf xx xy < 0)) = false := by simp [hlv]
          go_wp2_with fail
          go_quiet_grown (first | (go_at_fn f; refine Calls.grown_of (hcg _ _)))
          go_wp2
          refine ⟨⟨i, c, _, _, rfl, rfl, hi, by omega, by omega, HL.out.1, fun d c1 c2 => ?_, CLS.out nq osq⟩, by simp [intOf]; omega⟩
          rw [← Hq.out.1] at Hr
          have hHB := HB.out
          rcases HS.out.1.le (show a ≤ c from Hq.out.2.2.2.1) c1 (by omega) with e | e <;> rcases HS.out.2.1.le (show m ≤ p - d by omega) (show p - d ≤ p - c by omega) (by omega) with e' | e'
          · rw [e', ← e]; exact Hr.out
          · rw [← e]; exact HT.out.ord.trans _ _ _ e' Hr.out
          · rw [e']; exact HT.out.ord.trans _ _ _ Hr.out e
          · exact HT.out.ord.trans _ _ _ e' (HT.out.ord.trans _ _ _ Hr.out e)
        · have Hr := Lib.hid (show R (g c) (g q) from HT.out.no _ _ (HS.out.2.2 c q Hq.out.2.2.2.1 Hq.out.2.2.2.2 Hq.out.2.1 Hq.out.2.2.1) (by unfold ltOf; rw [HXY.out.1, HXY.out.2]; exact decide_eq_false hlv))
          have hbb : (!decide (cf xx xy < 0)) = true := by simp [hlv]
          go_wp2_with fail
          go_quiet_grown (first | (go_at_fn f; refine Calls.grown_of (hcg _ _)))
          go_wp2
          refine ⟨⟨c + 1, j, _, _, by go_num, rfl, by omega, by omega, hj, fun d c1 c2 => ?_, HL.out.2, CLS.out nq osq⟩, by simp [intOf]; omega⟩
          rw [← Hq.out.1] at Hr
          have hHB := HB.out
          rcases HS.out.1.le (show a ≤ d by omega) (show d ≤ c by omega) (by omega) with e | e <;> rcases HS.out.2.1.le (show m ≤ p - c by omega) (show p - c ≤ p - d by omega) (by omega) with e' | e'
          · rw [e, ← e']; exact Hr.out
          · rw [e]; exact HT.out.ord.trans _ _ _ Hr.out e'
          · rw [← e']; exact HT.out.ord.trans _ _ _ e Hr.out
          · exact HT.out.ord.trans _ _ _ e (HT.out.ord.trans _ _ _ Hr.out e')
      · obtain rfl : i = j := by omega
        have hltI : ¬ (i : Int) < (i : Int) := by omega
        obtain ⟨wq, hwq⟩ : ∃ wq, sortWorldK enc k w0 blk off m' (Stab.row o N g) os' = wq := ⟨_, rfl⟩
        rw [hwq]
        have HW2 := Lib.hid hwq
        have hHB := HB.out
        obtain ⟨en, hen⟩ : ∃ en, n - i = en := ⟨_, rfl⟩
        have e7 : IntKind.i64.wrap ((n : Int) - (i : Int)) = (en : Int) := by rw [IntKind.wrap_i64]; omega
        obtain ⟨g2, hg2⟩ : ∃ g2, Stab.rot g i m en = g2 := ⟨_, rfl⟩
        have SP := Lib.hid (Stab.merge_mid HT.out.ord mid i en p Hmid.out.1.symm (by omega) (by omega) (by omega) HS.out.1 HS.out.2.1 HS.out.2.2 (by rw [HM.out.2.1]; exact hi) (by rw [HM.out.2.2]; exact hj) (by rw [HM.out.2.1]; exact HL.out.1) (by rw [HM.out.2.2]; exact HL.out.2) g2 hg2)
        have hbi : a ≤ i ∧ i ≤ m ∧ i ≤ mid ∧ m ≤ en ∧ mid ≤ en ∧ en ≤ b := SP.out.1
        have hbj : en + i = mid + m := by omega
        have hmb : a < mid ∧ mid < b ∧ b ≤ N := by omega
        have HG := Lib.hid hg2
        clear hwq hlt hHB hen hg2 hltI hbd e4 e6 hma hma1 hbm hbm1 e1 e2 e3 hhi hi hij hj hmI e5
        rcases Nat.lt_or_ge i m with hal | hal <;> rcases Nat.lt_or_ge i mid with hbe | hbe <;> rcases Nat.lt_or_ge a i with hga | hga <;> rcases Nat.lt_or_ge en b with hde | hde
        · have cim : (i : Int) < (m : Int) := by omega
          have cmen : (m : Int) < (en : Int) := by omega
          have cai : (a : Int) < (i : Int) := by omega
          have cimid : (i : Int) < (mid : Int) := by omega
          have cmiden : (mid : Int) < (en : Int) := by omega
          have cenb : (en : Int) < (b : Int) := by omega
          have hc1 := Lib.hid (HR.out g i m en m' os' (by omega) (by omega) (by omega))
          rw [HW2.out, HG.out] at hc1
          clear hal hbe hga hde
          go_wp2_with fail
          refine hc1.out.mono ?_
          rintro e w1 ⟨rfl, m1, os1, hw1⟩
          have HW3 := Lib.hid hw1.symm
          clear hw1
          have hc2 := Lib.hid (IH.out g2 a i mid m1 os1 (by omega) (by omega) (by omega) (by omega) SP.out.2.1 SP.out.2.2.1 SP.out.2.2.2.2.2.2.1)
          rw [HW3.out] at hc2
          go_wp2_with fail
          refine hc2.out.mono ?_
          rintro e w2 ⟨rfl, g3, hp3, hs3, m2, os2, hw2⟩
          have P3 := Lib.hid (And.intro hp3 hs3)
          have HW4 := Lib.hid hw2.symm
          clear hw2 hp3 hs3
          have SQ := Lib.hid (Stab.merge_right SP.out P3.out.1)
          have hc3 := Lib.hid (IH.out g3 mid en b m2 os2 (by omega) (by omega) (by omega) (by omega) SQ.out.1 SQ.out.2.1 SQ.out.2.2)
          rw [HW4.out] at hc3
          go_wp2_with fail
          refine hc3.out.mono ?_
          rintro e w3 ⟨rfl, g4, hp4, hs4, m3, os3, hw3⟩
          have P4 := Lib.hid (And.intro hp4 hs4)
          have HW5 := Lib.hid hw3.symm
          clear hw3 hp4 hs4
          go_wp2
          go_end0
          exact ⟨rfl, _, Stab.merge_prm SP.out P3.out.1 P4.out.1 (by omega), Stab.merge_srt SP.out P3.out P4.out, _, _, HW5.out.symm⟩
        · have cim : (i : Int) < (m : Int) := by omega
          have cmen : (m : Int) < (en : Int) := by omega
          have cai : (a : Int) < (i : Int) := by omega
          have cimid : (i : Int) < (mid : Int) := by omega
          have cmiden : (mid : Int) < (en : Int) := by omega
          have cenb : ¬ (en : Int) < (b : Int) := by omega
          have hc1 := Lib.hid (HR.out g i m en m' os' (by omega) (by omega) (by omega))
          rw [HW2.out, HG.out] at hc1
          clear hal hbe hga hde
          go_wp2_with fail
          refine hc1.out.mono ?_
          rintro e w1 ⟨rfl, m1, os1, hw1⟩
          have HW3 := Lib.hid hw1.symm
          clear hw1
          have hc2 := Lib.hid (IH.out g2 a i mid m1 os1 (by omega) (by omega) (by omega) (by omega) SP.out.2.1 SP.out.2.2.1 SP.out.2.2.2.2.2.2.1)
          rw [HW3.out] at hc2
          go_wp2_with fail
          refine hc2.out.mono ?_
          rintro e w2 ⟨rfl, g3, hp3, hs3, m2, os2, hw2⟩
          have P3 := Lib.hid (And.intro hp3 hs3)
          have HW4 := Lib.hid hw2.symm
          clear hw2 hp3 hs3
          have SQ := Lib.hid (Stab.merge_right SP.out P3.out.1)
          have P4 := Lib.hid (And.intro (Stab.Prm.refl mid b g3) (Stab.srt_joint SQ.out.1 SQ.out.2.1 (by omega)))
          have HW5 := HW4
          go_wp2
          go_end0
          exact ⟨rfl, _, Stab.merge_prm SP.out P3.out.1 P4.out.1 (by omega), Stab.merge_srt SP.out P3.out P4.out, _, _, HW5.out.symm⟩
        · have cim : (i : Int) < (m : Int) := by omega
          have cmen : (m : Int) < (en : Int) := by omega
          have cai : ¬ (a : Int) < (i : Int) := by omega
          have cimid : (i : Int) < (mid : Int) := by omega
          have cmiden : (mid : Int) < (en : Int) := by omega
          have cenb : (en : Int) < (b : Int) := by omega
          have hc1 := Lib.hid (HR.out g i m en m' os' (by omega) (by omega) (by omega))
          rw [HW2.out, HG.out] at hc1
          clear hal hbe hga hde
          go_wp2_with fail
          refine hc1.out.mono ?_
          rintro e w1 ⟨rfl, m1, os1, hw1⟩
          have HW3 := Lib.hid hw1.symm
          clear hw1
          have P3 := Lib.hid (And.intro (Stab.Prm.refl a mid g2) (Stab.srt_joint SP.out.2.1 SP.out.2.2.1 (by omega)))
          have HW4 := HW3
          have SQ := Lib.hid (Stab.merge_right SP.out P3.out.1)
          have hc3 := Lib.hid (IH.out g2 mid en b m1 os1 (by omega) (by omega) (by omega) (by omega) SQ.out.1 SQ.out.2.1 SQ.out.2.2)
          rw [HW4.out] at hc3
          go_wp2_with fail
          refine hc3.out.mono ?_
          rintro e w3 ⟨rfl, g4, hp4, hs4, m3, os3, hw3⟩
          have P4 := Lib.hid (And.intro hp4 hs4)
          have HW5 := Lib.hid hw3.symm
          clear hw3 hp4 hs4
          go_wp2
          go_end0
          exact ⟨rfl, _, Stab.merge_prm SP.out P3.out.1 P4.out.1 (by omega), Stab.merge_srt SP.out P3.out P4.out, _, _, HW5.out.symm⟩
        · have cim : (i : Int) < (m : Int) := by omega
          have cmen : (m : Int) < (en : Int) := by omega
          have cai : ¬ (a : Int) < (i : Int) := by omega
          have cimid : (i : Int) < (mid : Int) := by omega
          have cmiden : (mid : Int) < (en : Int) := by omega
          have cenb : ¬ (en : Int) < (b : Int) := by omega
          have hc1 := Lib.hid (HR.out g i m en m' os' (by omega) (by omega) (by omega))
          rw [HW2.out, HG.out] at hc1
          clear hal hbe hga hde
          go_wp2_with fail
          refine hc1.out.mono ?_
          rintro e w1 ⟨rfl, m1, os1, hw1⟩
          have HW3 := Lib.hid hw1.symm
          clear hw1
          have P3 := Lib.hid (And.intro (Stab.Prm.refl a mid g2) (Stab.srt_joint SP.out.2.1 SP.out.2.2.1 (by omega)))
          have HW4 := HW3
          have SQ := Lib.hid (Stab.merge_right SP.out P3.out.1)
          have P4 := Lib.hid (And.intro (Stab.Prm.refl mid b g2) (Stab.srt_joint SQ.out.1 SQ.out.2.1 (by omega)))
          have HW5 := HW4
          go_wp2
          go_end0
          exact ⟨rfl, _, Stab.merge_prm SP.out P3.out.1 P4.out.1 (by omega), Stab.merge_srt SP.out P3.out P4.out, _, _, HW5.out.symm⟩
        · have cim : (i : Int) < (m : Int) := by omega
          have cmen : ¬ (m : Int) < (en : Int) := by omega
          have cai : (a : Int) < (i : Int) := by omega
          have cimid : ¬ (i : Int) < (mid : Int) := by omega
          have cmiden : (mid : Int) < (en : Int) := by omega
          have cenb : (en : Int) < (b : Int) := by omega
          have HW3 : Hid (sortWorldK enc k w0 blk off m' (Stab.row o N g2) os' = wq) := Lib.hid (by rw [← HG.out, Stab.rot_none g i m en (by omega) (by omega) (by omega)]; exact HW2.out)
          clear hal hbe hga hde
          have P3 := Lib.hid (And.intro (Stab.Prm.refl a mid g2) (Stab.srt_joint SP.out.2.1 SP.out.2.2.1 (by omega)))
          have HW4 := HW3
          have SQ := Lib.hid (Stab.merge_right SP.out P3.out.1)
          have hc3 := Lib.hid (IH.out g2 mid en b m' os' (by omega) (by omega) (by omega) (by omega) SQ.out.1 SQ.out.2.1 SQ.out.2.2)
          rw [HW4.out] at hc3
          go_wp2_with fail
          refine hc3.out.mono ?_
          rintro e w3 ⟨rfl, g4, hp4, hs4, m3, os3, hw3⟩
          have P4 := Lib.hid (And.intro hp4 hs4)
          have HW5 := Lib.hid hw3.symm
          clear hw3 hp4 hs4
          go_wp2
          go_end0
          exact ⟨rfl, _, Stab.merge_prm SP.out P3.out.1 P4.out.1 (by omega), Stab.merge_srt SP.out P3.out P4.out, _, _, HW5.out.symm⟩
        · have cim : (i : Int) < (m : Int) := by omega
          have cmen : ¬ (m : Int) < (en : Int) := by omega
          have cai : (a : Int) < (i : Int) := by omega
          have cimid : ¬ (i : Int) < (mid : Int) := by omega
          have cmiden : (mid : Int) < (en : Int) := by omega
          have cenb : ¬ (en : Int) < (b : Int) := by omega
          have HW3 : Hid (sortWorldK enc k w0 blk off m' (Stab.row o N g2) os' = wq) := Lib.hid (by rw [← HG.out, Stab.rot_none g i m en (by omega) (by omega) (by omega)]; exact HW2.out)
          clear hal hbe hga hde
          have P3 := Lib.hid (And.intro (Stab.Prm.refl a mid g2) (Stab.srt_joint SP.out.2.1 SP.out.2.2.1 (by omega)))
          have HW4 := HW3
          have SQ := Lib.hid (Stab.merge_right SP.out P3.out.1)
          have P4 := Lib.hid (And.intro (Stab.Prm.refl mid b g2) (Stab.srt_joint SQ.out.1 SQ.out.2.1 (by omega)))
          have HW5 := HW4
          go_wp2
          go_end0
          exact ⟨rfl, _, Stab.merge_prm SP.out P3.out.1 P4.out.1 (by omega), Stab.merge_srt SP.out P3.out P4.out, _, _, HW5.out.symm⟩
        · exfalso; omega
        · exfalso; omega
        · have cim : ¬ (i : Int) < (m : Int) := by omega
          have cmen : (m : Int) < (en : Int) := by omega
          have cai : (a : Int) < (i : Int) := by omega
          have cimid : (i : Int) < (mid : Int) := by omega
          have cmiden : ¬ (mid : Int) < (en : Int) := by omega
          have cenb : (en : Int) < (b : Int) := by omega
          have HW3 : Hid (sortWorldK enc k w0 blk off m' (Stab.row o N g2) os' = wq) := Lib.hid (by rw [← HG.out, Stab.rot_none g i m en (by omega) (by omega) (by omega)]; exact HW2.out)
          clear hal hbe hga hde
          have hc2 := Lib.hid (IH.out g2 a i mid m' os' (by omega) (by omega) (by omega) (by omega) SP.out.2.1 SP.out.2.2.1 SP.out.2.2.2.2.2.2.1)
          rw [HW3.out] at hc2
          go_wp2_with fail
          refine hc2.out.mono ?_
          rintro e w2 ⟨rfl, g3, hp3, hs3, m2, os2, hw2⟩
          have P3 := Lib.hid (And.intro hp3 hs3)
          have HW4 := Lib.hid hw2.symm
          clear hw2 hp3 hs3
          have SQ := Lib.hid (Stab.merge_right SP.out P3.out.1)
          have P4 := Lib.hid (And.intro (Stab.Prm.refl mid b g3) (Stab.srt_joint SQ.out.1 SQ.out.2.1 (by omega)))
          have HW5 := HW4
          go_wp2
          go_end0
          exact ⟨rfl, _, Stab.merge_prm SP.out P3.out.1 P4.out.1 (by omega), Stab.merge_srt SP.out P3.out P4.out, _, _, HW5.out.symm⟩
        · exfalso; omega
        · have cim : ¬ (i : Int) < (m : Int) := by omega
          have cmen : (m : Int) < (en : Int) := by omega
          have cai : ¬ (a : Int) < (i : Int) := by omega
          have cimid : (i : Int) < (mid : Int) := by omega
          have cmiden : ¬ (mid : Int) < (en : Int) := by omega
          have cenb : (en : Int) < (b : Int) := by omega
          have HW3 : Hid (sortWorldK enc k w0 blk off m' (Stab.row o N g2) os' = wq) := Lib.hid (by rw [← HG.out, Stab.rot_none g i m en (by omega) (by omega) (by omega)]; exact HW2.out)
          clear hal hbe hga hde
          have P3 := Lib.hid (And.intro (Stab.Prm.refl a mid g2) (Stab.srt_joint SP.out.2.1 SP.out.2.2.1 (by omega)))
          have HW4 := HW3
          have SQ := Lib.hid (Stab.merge_right SP.out P3.out.1)
          have P4 := Lib.hid (And.intro (Stab.Prm.refl mid b g2) (Stab.srt_joint SQ.out.1 SQ.out.2.1 (by omega)))
          have HW5 := HW4
          go_wp2
          go_end0
          exact ⟨rfl, _, Stab.merge_prm SP.out P3.out.1 P4.out.1 (by omega), Stab.merge_srt SP.out P3.out P4.out, _, _, HW5.out.symm⟩
        · exfalso; omega
        · have cim : ¬ (i : Int) < (m : Int) := by omega
          have cmen : ¬ (m : Int) < (en : Int) := by omega
          have cai : (a : Int) < (i : Int) := by omega
          have cimid : ¬ (i : Int) < (mid : Int) := by omega
          have cmiden : ¬ (mid : Int) < (en : Int) := by omega
          have cenb : (en : Int) < (b : Int) := by omega
          have HW3 : Hid (sortWorldK enc k w0 blk off m' (Stab.row o N g2) os' = wq) := Lib.hid (by rw [← HG.out, Stab.rot_none g i m en (by omega) (by omega) (by omega)]; exact HW2.out)
          clear hal hbe hga hde
          have P3 := Lib.hid (And.intro (Stab.Prm.refl a mid g2) (Stab.srt_joint SP.out.2.1 SP.out.2.2.1 (by omega)))
          have HW4 := HW3
          have SQ := Lib.hid (Stab.merge_right SP.out P3.out.1)
          have P4 := Lib.hid (And.intro (Stab.Prm.refl mid b g2) (Stab.srt_joint SQ.out.1 SQ.out.2.1 (by omega)))
          have HW5 := HW4
          go_wp2
          go_end0
          exact ⟨rfl, _, Stab.merge_prm SP.out P3.out.1 P4.out.1 (by omega), Stab.merge_srt SP.out P3.out P4.out, _, _, HW5.out.symm⟩
        · exfalso; omega
        · exfalso; omega
        · exfalso; omega
  · have hmI : ¬ (mid : Int) < (m : Int) := by omega
    obtain ⟨lo, hlo⟩ : ∃ lo, a = lo := ⟨_, rfl⟩
    obtain ⟨hi, hhi⟩ : ∃ hi, m = hi := ⟨_, rfl⟩
    have hlh : lo ≤ hi ∧ hi ≤ m ∧ hi ≤ mid ∧ n ≤ b + lo ∧ a ≤ lo := by omega
    have elo : (if mid < m then mid + m - b else a) = lo := by rw [if_neg hmm]; exact hlo
    have ehi : (if mid < m then mid else m) = hi := by rw [if_neg hmm]; exact hhi
    have e5 : a = lo := hlo
    have hhi2 : m = hi := hhi
    have HM := Lib.hid (And.intro hmm (And.intro elo ehi))
    have hnm : n = mid + m := hn.symm
    have HB := Lib.hid (And.intro hmb (And.intro hlh (And.intro hnm (And.intro hpn (And.intro h1 (And.intro h2 h3))))))
    have hbd : mid ≤ N ∧ m ≤ N ∧ n ≤ N + N ∧ lo ≤ N ∧ hi ≤ N := by omega
    clear hmm hlo elo ehi hmid hn hp hmb hlh hpn hnm h1 h2 h3
    subst hhi2; subst e5
    
    go_enter L.fSym, Try.ntmps73
    go_wp2
    go_loopw [20, 21] (fun vi vj wr => ∃ (i j m' : Nat) (os' : Array Obj), vi = .int .i64 (i : Int) ∧ vj = .int .i64 (j : Int) ∧ a ≤ i ∧ i ≤ j ∧ j ≤ m ∧ (∀ c, a ≤ c → c < i → R (g c) (g (p - c))) ∧ (∀ c, j ≤ c → c < m → R (g (p - c)) (g c)) ∧ wr = sortWorldK enc k w0 blk off m' (Stab.row o N g) os') (fun vi vj _ => (intOf vj).toNat - (intOf vi).toNat)
    case atStart => exact ⟨a, m, m0, os, rfl, rfl, Nat.le_refl _, HB.out.2.1.1, Nat.le_refl _, fun c _ _ => by omega, fun c _ _ => by omega, HW.out.symm⟩
    case round =>
      obtain ⟨i, j, m', os', rfl, rfl, hi, hij, hj, hlo, hhi, rfl⟩ := hrel
      have HL := Lib.hid (And.intro hlo hhi)
      clear hlo hhi
      by_cases hlt : i < j
      · obtain ⟨c, hc⟩ : ∃ c, (i + j) / 2 = c := ⟨_, rfl⟩
        obtain ⟨⟨hb1, hb2⟩, ⟨hb3, hb4, hb5, hb6, hb7⟩, hb8, hb9, hb10, hb11, hb12⟩ := HB.out
        have e1 : IntKind.i64.wrap ((i : Int) + (j : Int)) = (i : Int) + (j : Int) := by rw [IntKind.wrap_i64]; omega
        have hltI : (i : Int) < (j : Int) := by omega
        have e2 : IntKind.u64.wrap ((i : Int) + (j : Int)) = (i : Int) + (j : Int) := by unfold IntKind.wrap; simp [IntKind.bits, IntKind.signed]; omega
        have e3 : ((i : Int) + (j : Int)) / 2 = (c : Int) := by omega
        have hc2 : i ≤ c ∧ c < j := by omega
        obtain ⟨q, hq⟩ : ∃ q, p - c = q := ⟨_, rfl⟩
        have hq2 : m ≤ q ∧ q < b ∧ a ≤ c ∧ c < m := by omega
        have e7 : IntKind.i64.wrap ((p : Int) - (c : Int)) = (q : Int) := by rw [IntKind.wrap_i64]; omega
        have hcN : (c : Int) < (N : Int) := by omega
        have hqN : (q : Int) < (N : Int) := by omega
        have hcN' : c < N := by omega
        have hqN' : q < N := by omega
        have e4 : IntKind.i64.wrap ((c : Int) + 1) = ((c + 1 : Nat) : Int) := by rw [IntKind.wrap_i64]; omega
        have Hq := Lib.hid (And.intro hq hq2)
        clear hc hq hb1 hb2 hb3 hb4 hb5 hb6 hb7 hb8 hb9 hb10 hb11 hb12 hq2
        obtain ⟨xx, hxx⟩ : ∃ z9, (Stab.row o N g)[q]! = z9 := ⟨_, rfl⟩
        obtain ⟨xy, hxy⟩ : ∃ z9, (Stab.row o N g)[c]! = z9 := ⟨_, rfl⟩
        have hsz := Stab.row_size o N g
        have hcls : ∀ n' os'', grow ((sortWorldK enc k w0 blk off m' (Stab.row o N g) os').drewN n') os'' = sortWorldK enc k w0 blk off (m' + n') (Stab.row o N g) (os' ++ os'') := fun n' os'' => sortWorldK_grown_c enc k w0 blk off m' n' _ os' os''
        have hHc : ∀ n' os'', HoldsK enc k (grow ((sortWorldK enc k w0 blk off m' (Stab.row o N g) os').drewN n') os'') blk off (Stab.row o N g) := fun n' os'' => by rw [hcls]; exact holdsK_sortWorldK_c enc k w0 blk off d0 _ _ _ HH.out hblk (by rw [hsz, Hd.out])
        have lx : ∀ n' os'', Sem.run P (loadCellsFrom ⟨blk, off + (q) * k, none⟩ 0 k #[]) (grow ((sortWorldK enc k w0 blk off m' (Stab.row o N g) os').drewN n') os'') = .ok (enc xx).toArray (grow ((sortWorldK enc k w0 blk off m' (Stab.row o N g) os').drewN n') os'') := fun n' os'' => by
          rw [← hxx]; exact run_loadCellsFrom_list P _ _ _ k (HK.out _) (HoldsK.cells (hHc n' os'') HK.out (by rw [hsz]; omega))
        have ly : ∀ n' os'', Sem.run P (loadCellsFrom ⟨blk, off + (c) * k, none⟩ 0 k #[]) (grow ((sortWorldK enc k w0 blk off m' (Stab.row o N g) os').drewN n') os'') = .ok (enc xy).toArray (grow ((sortWorldK enc k w0 blk off m' (Stab.row o N g) os').drewN n') os'') := fun n' os'' => by
          rw [← hxy]; exact run_loadCellsFrom_list P _ _ _ k (HK.out _) (HoldsK.cells (hHc n' os'') HK.out (by rw [hsz]; omega))
        have hcg : ∀ n' os'', Calls P f (#[.agg (enc xx).toArray, .agg (enc xy).toArray] ++ cb) (grow ((sortWorldK enc k w0 blk off m' (Stab.row o N g) os').drewN n') os'') fun e w' => e = .returned (.int .i64 (cf xx xy)) ∧ ∃ q os3, w' = grow ((grow ((sortWorldK enc k w0 blk off m' (Stab.row o N g) os').drewN n') os'').drewN q) os3 := fun n' os'' => by
          rw [hcls]; exact HC.out _ _ _ (by rw [hsz]) xx xy
        rw [Stab.row_at o N _ _ (by omega)] at hxx hxy
        have CLS := Lib.hid hcls
        have HXY := Lib.hid (And.intro hxx hxy)
        clear hcls hHc hxx hxy hsz
        generalize hwq : sortWorldK enc k w0 blk off m' (Stab.row o N g) os' = wq at lx ly hcg CLS ⊢
        clear hwq
        by_cases hlv : cf xx xy < 0
        · have Hr := Lib.hid (show R (g q) (g c) from HT.out.yes _ _ (HS.out.2.2 c q Hq.out.2.2.2.1 Hq.out.2.2.2.2 Hq.out.2.1 Hq.out.2.2.1) (by unfold ltOf; rw [HXY.out.1, HXY.out.2]; exact decide_eq_true hlv))
          have hbb : (!decide (cf xx xy < 0)) = false := by simp [hlv]
          go_wp2_with fail
          go_quiet_grown (first | (go_at_fn f; refine Calls.grown_of (hcg _ _)))
          go_wp2
          refine ⟨⟨i, c, _, _, rfl, rfl, hi, by omega, by omega, HL.out.1, fun d c1 c2 => ?_, CLS.out nq osq⟩, by simp [intOf]; omega⟩
          rw [← Hq.out.1] at Hr
          have hHB := HB.out
          rcases HS.out.1.le (show a ≤ c from Hq.out.2.2.2.1) c1 (by omega) with e | e <;> rcases HS.out.2.1.le (show m ≤ p - d by omega) (show p - d ≤ p - c by omega) (by omega) with e' | e'
          · rw [e', ← e]; exact Hr.out
          · rw [← e]; exact HT.out.ord.trans _ _ _ e' Hr.out
          · rw [e']; exact HT.out.ord.trans _ _ _ Hr.out e
          · exact HT.out.ord.trans _ _ _ e' (HT.out.ord.trans _ _ _ Hr.out e)
        · have Hr := Lib.hid (show R (g c) (g q) from HT.out.no _ _ (HS.out.2.2 c q Hq.out.2.2.2.1 Hq.out.2.2.2.2 Hq.out.2.1 Hq.out.2.2.1) (by unfold ltOf; rw [HXY.out.1, HXY.out.2]; exact decide_eq_false hlv))
          have hbb : (!decide (cf xx xy < 0)) = true := by simp [hlv]
          go_wp2_with fail
          go_quiet_grown (first | (go_at_fn f; refine Calls.grown_of (hcg _ _)))
          go_wp2
          refine ⟨⟨c + 1, j, _, _, by go_num, rfl, by omega, by omega, hj, fun d c1 c2 => ?_, HL.out.2, CLS.out nq osq⟩, by simp [intOf]; omega⟩
          rw [← Hq.out.1] at Hr
          have hHB := HB.out
          rcases HS.out.1.le (show a ≤ d by omega) (show d ≤ c by omega) (by omega) with e | e <;> rcases HS.out.2.1.le (show m ≤ p - c by omega) (show p - c ≤ p - d by omega) (by omega) with e' | e'
          · rw [e, ← e']; exact Hr.out
          · rw [e]; exact HT.out.ord.trans _ _ _ Hr.out e'
          · rw [← e']; exact HT.out.ord.trans _ _ _ e Hr.out
          · exact HT.out.ord.trans _ _ _ e (HT.out.ord.trans _ _ _ Hr.out e')
      · obtain rfl : i = j := by omega
        have hltI : ¬ (i : Int) < (i : Int) := by omega
        obtain ⟨wq, hwq⟩ : ∃ wq, sortWorldK enc k w0 blk off m' (Stab.row o N g) os' = wq := ⟨_, rfl⟩
        rw [hwq]
        have HW2 := Lib.hid hwq
        have hHB := HB.out
        obtain ⟨en, hen⟩ : ∃ en, n - i = en := ⟨_, rfl⟩
        have e7 : IntKind.i64.wrap ((n : Int) - (i : Int)) = (en : Int) := by rw [IntKind.wrap_i64]; omega
        obtain ⟨g2, hg2⟩ : ∃ g2, Stab.rot g i m en = g2 := ⟨_, rfl⟩
        have SP := Lib.hid (Stab.merge_mid HT.out.ord mid i en p Hmid.out.1.symm (by omega) (by omega) (by omega) HS.out.1 HS.out.2.1 HS.out.2.2 (by rw [HM.out.2.1]; exact hi) (by rw [HM.out.2.2]; exact hj) (by rw [HM.out.2.1]; exact HL.out.1) (by rw [HM.out.2.2]; exact HL.out.2) g2 hg2)
        have hbi : a ≤ i ∧ i ≤ m ∧ i ≤ mid ∧ m ≤ en ∧ mid ≤ en ∧ en ≤ b := SP.out.1
        have hbj : en + i = mid + m := by omega
        have hmb : a < mid ∧ mid < b ∧ b ≤ N := by omega
        have HG := Lib.hid hg2
        clear hwq hlt hHB hen hg2 hltI hbd e4 e6 hma hma1 hbm hbm1 e1 e2 e3 hhi hi hij hj hmI
        rcases Nat.lt_or_ge i m with hal | hal <;> rcases Nat.lt_or_ge i mid with hbe | hbe <;> rcases Nat.lt_or_ge a i with hga | hga <;> rcases Nat.lt_or_ge en b with hde | hde
        · have cim : (i : Int) < (m : Int) := by omega
          have cmen : (m : Int) < (en : Int) := by omega
          have cai : (a : Int) < (i : Int) := by omega
          have cimid : (i : Int) < (mid : Int) := by omega
          have cmiden : (mid : Int) < (en : Int) := by omega
          have cenb : (en : Int) < (b : Int) := by omega
          have hc1 := Lib.hid (HR.out g i m en m' os' (by omega) (by omega) (by omega))
          rw [HW2.out, HG.out] at hc1
          clear hal hbe hga hde
          go_wp2_with fail
          refine hc1.out.mono ?_
          rintro e w1 ⟨rfl, m1, os1, hw1⟩
          have HW3 := Lib.hid hw1.symm
          clear hw1
          have hc2 := Lib.hid (IH.out g2 a i mid m1 os1 (by omega) (by omega) (by omega) (by omega) SP.out.2.1 SP.out.2.2.1 SP.out.2.2.2.2.2.2.1)
          rw [HW3.out] at hc2
          go_wp2_with fail
          refine hc2.out.mono ?_
          rintro e w2 ⟨rfl, g3, hp3, hs3, m2, os2, hw2⟩
          have P3 := Lib.hid (And.intro hp3 hs3)
          have HW4 := Lib.hid hw2.symm
          clear hw2 hp3 hs3
          have SQ := Lib.hid (Stab.merge_right SP.out P3.out.1)
          have hc3 := Lib.hid (IH.out g3 mid en b m2 os2 (by omega) (by omega) (by omega) (by omega) SQ.out.1 SQ.out.2.1 SQ.out.2.2)
          rw [HW4.out] at hc3
          go_wp2_with fail
          refine hc3.out.mono ?_
          rintro e w3 ⟨rfl, g4, hp4, hs4, m3, os3, hw3⟩
          have P4 := Lib.hid (And.intro hp4 hs4)
          have HW5 := Lib.hid hw3.symm
          clear hw3 hp4 hs4
          go_wp2
          go_end0
          exact ⟨rfl, _, Stab.merge_prm SP.out P3.out.1 P4.out.1 (by omega), Stab.merge_srt SP.out P3.out P4.out, _, _, HW5.out.symm⟩
        · have cim : (i : Int) < (m : Int) := by omega
          have cmen : (m : Int) < (en : Int) := by omega
          have cai : (a : Int) < (i : Int) := by omega
          have cimid : (i : Int) < (mid : Int) := by omega
          have cmiden : (mid : Int) < (en : Int) := by omega
          have cenb : ¬ (en : Int) < (b : Int) := by omega
          have hc1 := Lib.hid (HR.out g i m en m' os' (by omega) (by omega) (by omega))
          rw [HW2.out, HG.out] at hc1
          clear hal hbe hga hde
          go_wp2_with fail
          refine hc1.out.mono ?_
          rintro e w1 ⟨rfl, m1, os1, hw1⟩
          have HW3 := Lib.hid hw1.symm
          clear hw1
          have hc2 := Lib.hid (IH.out g2 a i mid m1 os1 (by omega) (by omega) (by omega) (by omega) SP.out.2.1 SP.out.2.2.1 SP.out.2.2.2.2.2.2.1)
          rw [HW3.out] at hc2
          go_wp2_with fail
          refine hc2.out.mono ?_
          rintro e w2 ⟨rfl, g3, hp3, hs3, m2, os2, hw2⟩
          have P3 := Lib.hid (And.intro hp3 hs3)
          have HW4 := Lib.hid hw2.symm
          clear hw2 hp3 hs3
          have SQ := Lib.hid (Stab.merge_right SP.out P3.out.1)
          have P4 := Lib.hid (And.intro (Stab.Prm.refl mid b g3) (Stab.srt_joint SQ.out.1 SQ.out.2.1 (by omega)))
          have HW5 := HW4
          go_wp2
          go_end0
          exact ⟨rfl, _, Stab.merge_prm SP.out P3.out.1 P4.out.1 (by omega), Stab.merge_srt SP.out P3.out P4.out, _, _, HW5.out.symm⟩
        · have cim : (i : Int) < (m : Int) := by omega
          have cmen : (m : Int) < (en : Int) := by omega
          have cai : ¬ (a : Int) < (i : Int) := by omega
          have cimid : (i : Int) < (mid : Int) := by omega
          have cmiden : (mid : Int) < (en : Int) := by omega
          have cenb : (en : Int) < (b : Int) := by omega
          have hc1 := Lib.hid (HR.out g i m en m' os' (by omega) (by omega) (by omega))
          rw [HW2.out, HG.out] at hc1
          clear hal hbe hga hde
          go_wp2_with fail
          refine hc1.out.mono ?_
          rintro e w1 ⟨rfl, m1, os1, hw1⟩
          have HW3 := Lib.hid hw1.symm
          clear hw1
          have P3 := Lib.hid (And.intro (Stab.Prm.refl a mid g2) (Stab.srt_joint SP.out.2.1 SP.out.2.2.1 (by omega)))
          have HW4 := HW3
          have SQ := Lib.hid (Stab.merge_right SP.out P3.out.1)
          have hc3 := Lib.hid (IH.out g2 mid en b m1 os1 (by omega) (by omega) (by omega) (by omega) SQ.out.1 SQ.out.2.1 SQ.out.2.2)
          rw [HW4.out] at hc3
          go_wp2_with fail
          refine hc3.out.mono ?_
          rintro e w3 ⟨rfl, g4, hp4, hs4, m3, os3, hw3⟩
          have P4 := Lib.hid (And.intro hp4 hs4)
          have HW5 := Lib.hid hw3.symm
          clear hw3 hp4 hs4
          go_wp2
          go_end0
          exact ⟨rfl, _, Stab.merge_prm SP.out P3.out.1 P4.out.1 (by omega), Stab.merge_srt SP.out P3.out P4.out, _, _, HW5.out.symm⟩
        · have cim : (i : Int) < (m : Int) := by omega
          have cmen : (m : Int) < (en : Int) := by omega
          have cai : ¬ (a : Int) < (i : Int) := by omega
          have cimid : (i : Int) < (mid : Int) := by omega
          have cmiden : (mid : Int) < (en : Int) := by omega
          have cenb : ¬ (en : Int) < (b : Int) := by omega
          have hc1 := Lib.hid (HR.out g i m en m' os' (by omega) (by omega) (by omega))
          rw [HW2.out, HG.out] at hc1
          clear hal hbe hga hde
          go_wp2_with fail
          refine hc1.out.mono ?_
          rintro e w1 ⟨rfl, m1, os1, hw1⟩
          have HW3 := Lib.hid hw1.symm
          clear hw1
          have P3 := Lib.hid (And.intro (Stab.Prm.refl a mid g2) (Stab.srt_joint SP.out.2.1 SP.out.2.2.1 (by omega)))
          have HW4 := HW3
          have SQ := Lib.hid (Stab.merge_right SP.out P3.out.1)
          have P4 := Lib.hid (And.intro (Stab.Prm.refl mid b g2) (Stab.srt_joint SQ.out.1 SQ.out.2.1 (by omega)))
          have HW5 := HW4
          go_wp2
          go_end0
          exact ⟨rfl, _, Stab.merge_prm SP.out P3.out.1 P4.out.1 (by omega), Stab.merge_srt SP.out P3.out P4.out, _, _, HW5.out.symm⟩
        · have cim : (i : Int) < (m : Int) := by omega
          have cmen : ¬ (m : Int) < (en : Int) := by omega
          have cai : (a : Int) < (i : Int) := by omega
          have cimid : ¬ (i : Int) < (mid : Int) := by omega
          have cmiden : (mid : Int) < (en : Int) := by omega
          have cenb : (en : Int) < (b : Int) := by omega
          have HW3 : Hid (sortWorldK enc k w0 blk off m' (Stab.row o N g2) os' = wq) := Lib.hid (by rw [← HG.out, Stab.rot_none g i m en (by omega) (by omega) (by omega)]; exact HW2.out)
          clear hal hbe hga hde
          have P3 := Lib.hid (And.intro (Stab.Prm.refl a mid g2) (Stab.srt_joint SP.out.2.1 SP.out.2.2.1 (by omega)))
          have HW4 := HW3
          have SQ := Lib.hid (Stab.merge_right SP.out P3.out.1)
          have hc3 := Lib.hid (IH.out g2 mid en b m' os' (by omega) (by omega) (by omega) (by omega) SQ.out.1 SQ.out.2.1 SQ.out.2.2)
          rw [HW4.out] at hc3
          go_wp2_with fail
          refine hc3.out.mono ?_
          rintro e w3 ⟨rfl, g4, hp4, hs4, m3, os3, hw3⟩
          have P4 := Lib.hid (And.intro hp4 hs4)
          have HW5 := Lib.hid hw3.symm
          clear hw3 hp4 hs4
          go_wp2
          go_end0
          exact ⟨rfl, _, Stab.merge_prm SP.out P3.out.1 P4.out.1 (by omega), Stab.merge_srt SP.out P3.out P4.out, _, _, HW5.out.symm⟩
        · have cim : (i : Int) < (m : Int) := by omega
          have cmen : ¬ (m : Int) < (en : Int) := by omega
          have cai : (a : Int) < (i : Int) := by omega
          have cimid : ¬ (i : Int) < (mid : Int) := by omega
          have cmiden : (mid : Int) < (en : Int) := by omega
          have cenb : ¬ (en : Int) < (b : Int) := by omega
          have HW3 : Hid (sortWorldK enc k w0 blk off m' (Stab.row o N g2) os' = wq) := Lib.hid (by rw [← HG.out, Stab.rot_none g i m en (by omega) (by omega) (by omega)]; exact HW2.out)
          clear hal hbe hga hde
          have P3 := Lib.hid (And.intro (Stab.Prm.refl a mid g2) (Stab.srt_joint SP.out.2.1 SP.out.2.2.1 (by omega)))
          have HW4 := HW3
          have SQ := Lib.hid (Stab.merge_right SP.out P3.out.1)
          have P4 := Lib.hid (And.intro (Stab.Prm.refl mid b g2) (Stab.srt_joint SQ.out.1 SQ.out.2.1 (by omega)))
          have HW5 := HW4
          go_wp2
          go_end0
          exact ⟨rfl, _, Stab.merge_prm SP.out P3.out.1 P4.out.1 (by omega), Stab.merge_srt SP.out P3.out P4.out, _, _, HW5.out.symm⟩
        · exfalso; omega
        · exfalso; omega
        · have cim : ¬ (i : Int) < (m : Int) := by omega
          have cmen : (m : Int) < (en : Int) := by omega
          have cai : (a : Int) < (i : Int) := by omega
          have cimid : (i : Int) < (mid : Int) := by omega
          have cmiden : ¬ (mid : Int) < (en : Int) := by omega
          have cenb : (en : Int) < (b : Int) := by omega
          have HW3 : Hid (sortWorldK enc k w0 blk off m' (Stab.row o N g2) os' = wq) := Lib.hid (by rw [← HG.out, Stab.rot_none g i m en (by omega) (by omega) (by omega)]; exact HW2.out)
          clear hal hbe hga hde
          have hc2 := Lib.hid (IH.out g2 a i mid m' os' (by omega) (by omega) (by omega) (by omega) SP.out.2.1 SP.out.2.2.1 SP.out.2.2.2.2.2.2.1)
          rw [HW3.out] at hc2
          go_wp2_with fail
          refine hc2.out.mono ?_
          rintro e w2 ⟨rfl, g3, hp3, hs3, m2, os2, hw2⟩
          have P3 := Lib.hid (And.intro hp3 hs3)
          have HW4 := Lib.hid hw2.symm
          clear hw2 hp3 hs3
          have SQ := Lib.hid (Stab.merge_right SP.out P3.out.1)
          have P4 := Lib.hid (And.intro (Stab.Prm.refl mid b g3) (Stab.srt_joint SQ.out.1 SQ.out.2.1 (by omega)))
          have HW5 := HW4
          go_wp2
          go_end0
          exact ⟨rfl, _, Stab.merge_prm SP.out P3.out.1 P4.out.1 (by omega), Stab.merge_srt SP.out P3.out P4.out, _, _, HW5.out.symm⟩
        · exfalso; omega
        · have cim : ¬ (i : Int) < (m : Int) := by omega
          have cmen : (m : Int) < (en : Int) := by omega
          have cai : ¬ (a : Int) < (i : Int) := by omega
          have cimid : (i : Int) < (mid : Int) := by omega
          have cmiden : ¬ (mid : Int) < (en : Int) := by omega
          have cenb : (en : Int) < (b : Int) := by omega
          have HW3 : Hid (sortWorldK enc k w0 blk off m' (Stab.row o N g2) os' = wq) := Lib.hid (by rw [← HG.out, Stab.rot_none g i m en (by omega) (by omega) (by omega)]; exact HW2.out)
          clear hal hbe hga hde
          have P3 := Lib.hid (And.intro (Stab.Prm.refl a mid g2) (Stab.srt_joint SP.out.2.1 SP.out.2.2.1 (by omega)))
          have HW4 := HW3
          have SQ := Lib.hid (Stab.merge_right SP.out P3.out.1)
          have P4 := Lib.hid (And.intro (Stab.Prm.refl mid b g2) (Stab.srt_joint SQ.out.1 SQ.out.2.1 (by omega)))
          have HW5 := HW4
          go_wp2
          go_end0
          exact ⟨rfl, _, Stab.merge_prm SP.out P3.out.1 P4.out.1 (by omega), Stab.merge_srt SP.out P3.out P4.out, _, _, HW5.out.symm⟩
        · exfalso; omega
        · have cim : ¬ (i : Int) < (m : Int) := by omega
          have cmen : ¬ (m : Int) < (en : Int) := by omega
          have cai : (a : Int) < (i : Int) := by omega
          have cimid : ¬ (i : Int) < (mid : Int) := by omega
          have cmiden : ¬ (mid : Int) < (en : Int) := by omega
          have cenb : (en : Int) < (b : Int) := by omega
          have HW3 : Hid (sortWorldK enc k w0 blk off m' (Stab.row o N g2) os' = wq) := Lib.hid (by rw [← HG.out, Stab.rot_none g i m en (by omega) (by omega) (by omega)]; exact HW2.out)
          clear hal hbe hga hde
          have P3 := Lib.hid (And.intro (Stab.Prm.refl a mid g2) (Stab.srt_joint SP.out.2.1 SP.out.2.2.1 (by omega)))
          have HW4 := HW3
          have SQ := Lib.hid (Stab.merge_right SP.out P3.out.1)
          have P4 := Lib.hid (And.intro (Stab.Prm.refl mid b g2) (Stab.srt_joint SQ.out.1 SQ.out.2.1 (by omega)))
          have HW5 := HW4
          go_wp2
          go_end0
          exact ⟨rfl, _, Stab.merge_prm SP.out P3.out.1 P4.out.1 (by omega), Stab.merge_srt SP.out P3.out P4.out, _, _, HW5.out.symm⟩
        · exfalso; omega
        · exfalso; omega
        · exfalso; omega

end Go.Proofs.Ytdcmjbebkmicaaa
