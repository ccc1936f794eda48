/- slices' stable sorting at structs of k cells: the merge of two runs; all of it. -/
import Derived.Test.YtdcmjbebkmicaaaSortF
import Derived.Test.YtdcmjbebkmicaaaStabR
namespace Go.Proofs.Ytdcmjbebkmicaaa
open Go.Shelf Go.RowKit Go.Lib Go.Sort
variable {P : Program} {α : Type} [Inhabited α]

theorem sortWorldK_start_m (enc : α → List Value) (k : Nat) (w : World) (blk off : Nat) (d : Array α) (h : HoldsK enc k w blk off d) : sortWorldK enc k w blk off 0 d #[] = w := by
  unfold sortWorldK; rw [grow_empty]; exact putRowK_self enc k w blk off d h
theorem sortWorldK_on_m (enc : α → List Value) (k : Nat) (w : World) (blk off n m : Nat) (dk dk' : Array α) (os os' : Array Obj) (hblk : blk < w.heap.size) (h : dk'.size = dk.size) :
    sortWorldK enc k (sortWorldK enc k w blk off n dk os) blk off m dk' os' = sortWorldK enc k w blk off (n + m) dk' (os ++ os') := grow_step_growK enc k w os os' n m blk off dk dk' hblk h
theorem symMerge_w (k : Nat) (L : StL P k) (enc : α → List Value) (hk : ∀ x, (enc x).length = k) (he : ∀ x, ∀ v ∈ enc x, v.oneCell' = true) (cf : α → α → Int) (o : Nat → α) (R : Nat → Nat → Prop) (hT : Stab.Tells R (ltOf cf) o) (N : Nat) (blk off cap : Nat) (f : Nat) (cb : Array Value) (w0 : World) (d0 : Array α)
    (ef : ∀ args w, (callFunc f args).run P w = .ok (.enter f args) w) (hcmp : CmpLays P f cb enc k cf blk off N w0)
    (hH : HoldsK enc k w0 blk off d0) (hd : d0.size = N) (hblk : blk < w0.heap.size) (hN : N < 4611686018427387904) :
    ∀ (c : Nat) (g : Nat → Nat) (a m b m0 : Nat) (os : Array Obj), b - a ≤ c → a < m → m < b → b ≤ N → Stab.Srt R g a m → Stab.Srt R g m b → (∀ x y, a ≤ x → x < m → m ≤ y → y < b → g x < g y) → Calls P 73 #[.slice (some ⟨blk, off, none⟩) N cap, .int .i64 (a : Int), .int .i64 (m : Int), .int .i64 (b : Int), .func (.func f) #[] cb] (sortWorldK enc k w0 blk off m0 (Stab.row o N g) os) fun e w' => e = .returned (.tuple #[]) ∧ ∃ g', Stab.Prm a b g g' ∧ Stab.Srt R g' a b ∧ ∃ m' os', w' = sortWorldK enc k w0 blk off m' (Stab.row o N g') os' := by
  intro c
  induction c with
  | zero => intro g a m b m0 os h1 h2 h3; omega
  | succ c ih =>
    intro g a m b m0 os h1 h2 h3 h4 s1 s2 hx
    by_cases e1 : m = a + 1
    · subst e1
      exact symUp_w k L enc hk he cf o R hT N g blk off cap a (a + 1) b f cb w0 m0 os d0 ef hcmp hH hd hblk hN rfl h3 h4 s2 (fun y p1 p2 => hx a y (Nat.le_refl _) (by omega) p1 p2)
    · by_cases e2 : b = m + 1
      · subst e2
        exact symDown_w k L enc hk he cf o R hT N g blk off cap a m (m + 1) f cb w0 m0 os d0 ef hcmp hH hd hblk hN rfl (by omega) h4 s1 (fun x p1 p2 => hx x m p1 p2 (Nat.le_refl _) (by omega))
      · exact symWide_w k L enc hk he cf o R hT N g blk off cap a m b f cb w0 m0 os d0 ef hcmp hH hd hblk hN (by omega) (by omega) h4 s1 s2 hx (fun g' a' m' b' mm os' p1 p2 p3 p4 p5 p6 p7 => ih g' a' m' b' mm os' (by omega) p1 p2 p3 p5 p6 p7)

set_option maxHeartbeats 4000000 in
set_option maxRecDepth 1000000 in
theorem stable_w (k : Nat) (L : StL P k) (enc : α → List Value) (hk : ∀ x, (enc x).length = k) (he : ∀ x, ∀ v ∈ enc x, v.oneCell' = true) (cf : α → α → Int) (o : Nat → α) (R : Nat → Nat → Prop) (hT : Stab.Tells R (ltOf cf) o) (N : Nat) (blk off cap : Nat) (f : Nat) (cb : Array Value) (w0 : World) (d0 : Array α)
    (ef : ∀ args w, (callFunc f args).run P w = .ok (.enter f args) w) (hcmp : CmpLays P f cb enc k cf blk off N w0)
    (hH : HoldsK enc k w0 blk off d0) (hd : d0.size = N) (hblk : blk < w0.heap.size) (hN : N < 1000000000) (hd0 : d0 = Stab.row o N id)
    (hI : ∀ (g : Nat → Nat) (a b m0 : Nat) (os : Array Obj), a ≤ b → b ≤ N → (∀ x y, a ≤ x → x < y → y < b → g x < g y) → Calls P 72 #[.slice (some ⟨blk, off, none⟩) N cap, .int .i64 (a : Int), .int .i64 (b : Int), .func (.func f) #[] cb] (sortWorldK enc k w0 blk off m0 (Stab.row o N g) os) fun e w' => e = .returned (.tuple #[]) ∧ ∃ g', Stab.Prm a b g g' ∧ Stab.Srt R g' a b ∧ ∃ m' os', w' = sortWorldK enc k w0 blk off m' (Stab.row o N g') os')
    (eI : ∀ args w, (callFunc 72 args).run P w = .ok (.enter 72 args) w) (fS : P.funcs[58]? = some Try.f58) :
    Calls P 58 #[.slice (some ⟨blk, off, none⟩) N cap, .int .i64 (N : Int), .func (.func f) #[] cb] w0 fun e w' => e = .returned (.tuple #[]) ∧ ∃ g', Stab.Prm 0 N id g' ∧ Stab.Srt R g' 0 N ∧ ∃ m' os', w' = sortWorldK enc k w0 blk off m' (Stab.row o N g') os' := by
  have mixed := L.mixed; have t0 := L.t0; have a0 := L.a0; have z0 := L.z0; have v0 := L.v0; have t3 := L.t3; have a3 := L.a3; have z3 := L.z3; have v3 := L.v3; have t4 := L.t4; have a4 := L.a4; have z4 := L.z4; have v4 := L.v4
  have tS := L.tS; have aS := L.aS; have zS := L.zS; have vS := L.vS; have tC := L.tC; have aC := L.aC; have zC := L.zC; have vC := L.vC; have aE := L.aE; have zE := L.zE; have tU := L.tU; have aU := L.aU; have zU := L.zU; have vU := L.vU
  have uS := run_underlying L.tS
  have HH := Lib.hid hH
  have Hd := Lib.hid hd
  have HK := Lib.hid hk
  have H1 := Lib.hid he
  have eY : ∀ args w, (callFunc 73 args).run P w = .ok (.enter 73 args) w := enters_of L.fSym (by kernel_rfl) rfl
  have HY := Lib.hid (fun (g : Nat → Nat) (a m b m0 : Nat) (os : Array Obj) => symMerge_w k L enc hk he cf o R hT N blk off cap f cb w0 d0 ef hcmp hH hd hblk (by omega) (b - a) g a m b m0 os (Nat.le_refl _))
  have HI := Lib.hid hI
  have H0 := Lib.hid (show sortWorldK enc k w0 blk off 0 (Stab.row o N id) #[] = w0 by rw [← hd0]; exact sortWorldK_start_m enc k w0 blk off d0 hH)
  clear hcmp hH hd hk he hT hI hd0 d0 HH Hd
  go_enter fS, Try.ntmps58
  go_wp2
  go_loopw [7, 8] (fun va vb wr => ∃ (a m' : Nat) (g : Nat → Nat) (os' : Array Obj), va = .int .i64 (a : Int) ∧ vb = .int .i64 ((a : Int) + 20) ∧ a ≤ N ∧ Hid (Stab.Blk R g N 20 a) ∧ wr = sortWorldK enc k w0 blk off m' (Stab.row o N g) os') (fun va _ _ => N - (intOf va).toNat)
  case atStart => exact ⟨0, 0, id, #[], rfl, by simp, Nat.zero_le _, Lib.hid Stab.blk_start, H0.out.symm⟩
  case round =>
    obtain ⟨a, m', g, os', rfl, rfl, haN, HB, rfl⟩ := hrel
    obtain ⟨wq, hwq⟩ : ∃ wq, sortWorldK enc k w0 blk off m' (Stab.row o N g) os' = wq := ⟨_, rfl⟩
    rw [hwq]
    have HW := Lib.hid hwq
    clear hwq
    by_cases hlt : a + 20 ≤ N
    · have hltI : (a : Int) + 20 ≤ (N : Int) := by omega
      have e1 : IntKind.i64.wrap ((a : Int) + 20 + 20) = (a : Int) + 20 + 20 := by rw [IntKind.wrap_i64]; omega
      have hc := Lib.hid (HI.out g a (a + 20) m' os' (by omega) hlt (fun x y h1 h2 _ => Stab.blk_own HB.out x y h1 h2))
      rw [HW.out, show ((a + 20 : Nat) : Int) = (a : Int) + 20 by omega] at hc
      go_wp2_with fail
      refine hc.out.mono ?_
      rintro e w1 ⟨rfl, g', hp, hs, m1, os1, hw1⟩
      have HP := Lib.hid (Stab.blk_step HB.out hlt hp hs)
      have HW1 := Lib.hid hw1
      clear hw1 hp hs
      go_wp2
      go_roundw
      case measure => simp [intOf]; omega
      case rel => exact ⟨a + 20, m1, g', os1, by go_num, by go_num, hlt, HP, HW1.out⟩
    · have hltI : ¬ (a : Int) + 20 ≤ (N : Int) := by omega
      have hc := Lib.hid (HI.out g a N m' os' haN (Nat.le_refl _) (fun x y h1 h2 _ => Stab.blk_own HB.out x y h1 h2))
      rw [HW.out] at hc
      go_wp2_with fail
      refine hc.out.mono ?_
      rintro e w1 ⟨rfl, g', hp, hs, m1, os1, hw1⟩
      have HP := Lib.hid (Stab.blk_last HB.out (by omega) haN hp hs)
      have HW1 := Lib.hid hw1
      clear hw1 hp hs hlt hltI haN HB HW hc
      go_wp2
      go_loopw [6, 7, 8] (fun vs _ _ wr => ∃ (bs m' : Nat) (g : Nat → Nat) (os' : Array Obj), vs = .int .i64 (bs : Int) ∧ 20 ≤ bs ∧ bs ≤ 2 * N + 40 ∧ Hid (Stab.Full R g N bs) ∧ wr = sortWorldK enc k w0 blk off m' (Stab.row o N g) os') (fun vs _ _ _ => N - (intOf vs).toNat)
      case atStart => exact ⟨20, m1, g', os1, rfl, Nat.le_refl _, by omega, HP, HW1.out⟩
      case round =>
        clear HP HW1
        obtain ⟨bs, m', g, os', rfl, hb0, hbN, HB, rfl⟩ := hrel
        obtain ⟨wq, hwq⟩ : ∃ wq, sortWorldK enc k w0 blk off m' (Stab.row o N g) os' = wq := ⟨_, rfl⟩
        rw [hwq]
        have HW := Lib.hid hwq
        clear hwq
        by_cases hlt : bs < N
        · have hltI : (bs : Int) < (N : Int) := by omega
          have e2 : IntKind.i64.wrap (2 * (bs : Int)) = 2 * (bs : Int) := by rw [IntKind.wrap_i64]; omega
          go_wp2
          go_loopw [7, 8] (fun va vb wr => ∃ (a m' : Nat) (g : Nat → Nat) (os' : Array Obj), va = .int .i64 (a : Int) ∧ vb = .int .i64 ((a : Int) + 2 * (bs : Int)) ∧ a ≤ N ∧ Hid (Stab.Half R g N bs a) ∧ wr = sortWorldK enc k w0 blk off m' (Stab.row o N g) os') (fun va _ _ => N - (intOf va).toNat)
          case atStart => exact ⟨0, m', g, os', rfl, by simp, Nat.zero_le _, Lib.hid (Stab.half_start HB.out), HW.out.symm⟩
          case round =>
            clear HB HW
            obtain ⟨a, m', g, os', rfl, rfl, haN, HB, rfl⟩ := hrel
            obtain ⟨wq, hwq⟩ : ∃ wq, sortWorldK enc k w0 blk off m' (Stab.row o N g) os' = wq := ⟨_, rfl⟩
            rw [hwq]
            have HW := Lib.hid hwq
            clear hwq
            by_cases hle : a + 2 * bs ≤ N
            · have hleI : (a : Int) + 2 * (bs : Int) ≤ (N : Int) := by omega
              have e3 : IntKind.i64.wrap ((a : Int) + (bs : Int)) = ((a + bs : Nat) : Int) := by rw [IntKind.wrap_i64]; omega
              have e4 : IntKind.i64.wrap ((a : Int) + 2 * (bs : Int) + 2 * (bs : Int)) = (a : Int) + 2 * (bs : Int) + 2 * (bs : Int) := by rw [IntKind.wrap_i64]; omega
              have hr := Lib.hid (Stab.half_runs (by omega) HB.out (a + 2 * bs) (Nat.le_refl _) hle (by omega))
              have hc := Lib.hid (HY.out g a (a + bs) (a + 2 * bs) m' os' (by omega) (by omega) hle hr.out.1 hr.out.2.1 hr.out.2.2)
              rw [HW.out, show ((a + 2 * bs : Nat) : Int) = (a : Int) + 2 * (bs : Int) by omega, show ((a + bs : Nat) : Int) = (a : Int) + (bs : Int) by omega] at hc
              go_wp2_with fail
              refine hc.out.mono ?_
              rintro e w1 ⟨rfl, g', hp, hs, m1, os1, hw1⟩
              have HP := Lib.hid (Stab.half_step (by omega) HB.out hle hp hs)
              have HW1 := Lib.hid hw1
              clear hw1 hp hs
              go_wp2
              go_roundw
              case measure => simp [intOf]; omega
              case rel => exact ⟨a + 2 * bs, m1, g', os1, by go_num, by go_num, hle, HP, HW1.out⟩
            · have hleI : ¬ (a : Int) + 2 * (bs : Int) ≤ (N : Int) := by omega
              have e3 : IntKind.i64.wrap ((a : Int) + (bs : Int)) = (a : Int) + (bs : Int) := by rw [IntKind.wrap_i64]; omega
              have e5 : IntKind.i64.wrap ((bs : Int) * 2) = (bs : Int) * 2 := by rw [IntKind.wrap_i64]; omega
              by_cases hm : a + bs < N
              · have hmI : (a : Int) + (bs : Int) < (N : Int) := by omega
                have hr := Lib.hid (Stab.half_runs (by omega) HB.out N (by omega) (Nat.le_refl _) (by omega))
                have hc := Lib.hid (HY.out g a (a + bs) N m' os' (by omega) hm (Nat.le_refl _) hr.out.1 hr.out.2.1 hr.out.2.2)
                rw [HW.out, show ((a + bs : Nat) : Int) = (a : Int) + (bs : Int) by omega] at hc
                go_wp2_with fail
                refine hc.out.mono ?_
                rintro e w1 ⟨rfl, g', hp, hs, m1, os1, hw1⟩
                have HP := Lib.hid (Stab.half_last HB.out (by omega) hp hs)
                have HW1 := Lib.hid hw1
                clear hw1 hp hs
                go_wp2
                go_roundw
                case measure => simp [intOf]; omega
                case rel => exact ⟨2 * bs, m1, g', os1, by go_num, by omega, by omega, HP, HW1.out⟩
              · have hmI : ¬ (a : Int) + (bs : Int) < (N : Int) := by omega
                have HP := Lib.hid (Stab.half_none (by omega) HB.out (by omega))
                go_wp2
                go_roundw
                case measure => simp [intOf]; omega
                case rel => exact ⟨2 * bs, m', g, os', by go_num, by omega, by omega, HP, HW.out.symm⟩
        · have hltI : ¬ (bs : Int) < (N : Int) := by omega
          have HP := Lib.hid (Stab.full_end HB.out (by omega))
          go_wp2
          go_end0
          exact ⟨rfl, g, HP.out.1, HP.out.2, m', os', HW.out.symm⟩

end Go.Proofs.Ytdcmjbebkmicaaa
