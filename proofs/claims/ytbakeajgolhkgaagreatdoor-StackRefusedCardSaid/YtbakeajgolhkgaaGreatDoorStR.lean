/- The laws of layer 20: moves by numbers, played: the walk. (printed by gen20q.py) -/
import Derived.Test.YtbakeajgolhkgaaGreatDoorStQ
namespace Go.Proofs.YtbakeajgolhkgaaGreatDoor
open Go.RowKit Go.Sort
attribute [local go_sem] Oper.semAt_some
theorem Sk.one_mvR (m : Mv) : (M.cell m).toArray.all (·.oneCell') = true := by kernel_rfl
theorem Sk.size_mvR (m : Mv) : (Tryz.prog.info? 47).map (·.size) = some (M.cell m).toArray.size := by kernel_rfl
theorem Sk.there_mv {W : World} {b : Nat} {cs : Array Value} {m : Mv} (h : RowAt W b 47 cs) (hs : cs.size = 5) : W.there b 0 (M.cell m).toArray.size := fun j hj => by
  have hj : j < 5 := hj
  refine ⟨?_, by rw [Nat.zero_add]; exact h.frozen j⟩
  rw [Nat.zero_add, h.cell j, Array.getElem?_eq_getElem (by omega)]
  rfl
theorem Sk.mv_stored {w3 W : World} {b : Nat} {cs : Array Value} (m : Mv) (h : Below w3.heap.size w3 W) (hr : RowAt W b 47 cs) (hs : cs.size = 5) (hb : w3.heap.size ≤ b) : Below w3.heap.size w3 (W.setCells b 0 (M.cell m).toArray.toList) ∧ RowAt (W.setCells b 0 (M.cell m).toArray.toList) b 47 (M.cell m).toArray := by
  refine ⟨(Lg.put_setCellsL b _ _ _).below h hb, ⟨?_⟩⟩
  have e : Lg.setSeg cs 0 (M.cell m).toArray.toList = (M.cell m).toArray := Array.ext_getElem? fun i => by
    rw [Lg.setSeg_get]
    by_cases hi : i < 5
    · rw [if_pos (by exact ⟨⟨by omega, by show i < 0 + 5; omega⟩, by omega⟩), Nat.sub_zero, Array.getElem?_toList]
    · rw [if_neg (by rintro ⟨⟨_, h2⟩, _⟩; exact hi (by have : i < 0 + 5 := h2; omega)), Array.getElem?_eq_none (by omega), Array.getElem?_eq_none (by show 5 ≤ i; omega)]
  exact (Lg.heap_setCellsO b _ _ _ _ _ hr.heap).trans (by rw [e])
theorem Sk.exec_ixi {ev : Operand → Value} {o : Oper} (x y : Operand) {b off n cap m : Nat} (ho : o.op = .indexAddr 78 x y) (hx : ev x = .slice (some ⟨b, off, none⟩) n cap) (hy : ev y = .int .i64 (m : Int)) (w : World) (hm : m < n) : (execOp ev o).run Tryz.prog w = .ok (.value (.pointer (some ⟨b, off + m, none⟩))) w := by
  unfold execOp
  simp only [ho, hx, hy]
  have e1 : (0 : Int) ≤ (m : Int) := by omega
  have e2 : (m : Int) < (n : Int) := by omega
  simp [go_sem, e1, e2]
theorem Sk.load_int (p : Addr) (v : Value) (w : World) (h : w.cell? p = some v) : (loadVar 3 p).run Tryz.prog w = .ok v w := by
  simp [go_sem, h]
/-- The end of a counted round. -/
theorem Sk.st_next {N k : Nat} (hN : N ≤ 100000) (h : k < N) : wrap64 ((k : Int) + 1) = ((k + 1 : Nat) : Int) ∧ N - (intOf (.int .i64 (wrap64 ((k : Int) + 1)))).toNat < N - (intOf (.int .i64 (k : Int))).toNat := by
  have e1 : wrap64 ((k : Int) + 1) = ((k + 1 : Nat) : Int) := by simp only [wrap64]; omega
  refine ⟨e1, ?_⟩
  rw [e1]
  simp only [intOf, Int.toNat_natCast]
  omega
/-- How the move of a number ends. -/
theorem Sk.make_way {base g n : Nat} {s' : Sk.St} {m : Mv} {w w' : World} {e : Ending} {c : Nat → Int} (hc : s'.pos n = c) (hm : m ∈ G.list c) (h : Sk.MakeEnd base g s' n m w e w') :
    ((G.outcome c).1 ≠ 0 ∧ e = .returned (.int .i64 190) ∧ Below w.heap.size w w') ∨ ((G.outcome c).1 = 0 ∧ e = .returned (.int .i64 0) ∧ ∃ lb F, Sk.At base w' g (s'.push n m (G.next (s'.pos n) m) lb F) (n + 1) ∧ Sk.Kg base w w') := by
  unfold Sk.MakeEnd at h
  rw [hc] at h
  by_cases ho : (G.outcome c).1 ≠ 0
  · rw [if_pos ho] at h; exact .inl ⟨ho, h⟩
  · rw [if_neg ho, if_pos hm] at h
    rw [hc]
    exact .inr ⟨by omega, h⟩
set_option maxRecDepth 100000 in
set_option maxHeartbeats 4000000 in
theorem play_any (base : Nat) (w : World) (g : Nat) (s : Sk.St) (n N : Nat) (x : Nat → Int) (v : Value) (h : Sk.At base w g s n) (hv : Sk.Ints base w v N x) (hN : n + N ≤ 1000) (hT : ∀ W, Below base w W → Tb W) (hbase : base ≤ w.heap.size) :
    Calls Tryz.prog 36 #[.pointer (some ⟨g, 0, none⟩), v] w (Sk.PlayEnd base g s n x N w) := by
  obtain ⟨ao, cap, rfl, h1, h2, h3, h4⟩ := hv
  have HC := Lib.hid h4
  have HP := Lib.hid (Sk.Ply.start h x)
  have HT := Lib.hid hT
  have HN := Lib.hid hN
  have HB := Lib.hid hbase
  clear h h3 h4 hT hbase hN
  go_enter Tryz.func36, Tryz.ntmps36
  go_wp2
  go_loopw [5, 6, 7] (fun i _ _ wr => ∃ k s', k ≤ N ∧ i = .int .i64 (k : Int) ∧ Hid (Sk.Ply base w wr g s n x k s')) (fun i _ _ _ => N - (intOf i).toNat)
  case atStart => exact ⟨0, s, Nat.zero_le _, rfl, HP⟩
  case round =>
    obtain ⟨k, s', hk, rfl, HPk⟩ := hrel
    by_cases hlt : k < N
    · obtain ⟨b, off, rfl, hb, hc⟩ := HC.out (by omega)
      have hck := hc k hlt
      have hBw : Below base w wr := HPk.out.kg.below HB.out
      have hbw : base ≤ wr.heap.size := Nat.le_trans HB.out hBw.size
      have hcr : wr.cell? ⟨b, off + k, none⟩ = some (.int .i64 (x k)) := (World.cell?_of_block (hBw.block b hb)).trans hck
      have Hcr := Lib.hid (fun W (h9 : Below wr.heap.size wr W) => show W.cell? ⟨b, off + k, none⟩ = some (.int .i64 (x k)) from (World.cell?_of_block (h9.block b (by omega))).trans hcr)
      have hcx : s'.pos (n + k) = Sk.run (s.pos n) x k := HPk.out.new k (Nat.le_refl _)
      have hok : PosOk (Sk.run (s.pos n) x k) := hcx ▸ HPk.out.at'.ok _ (Nat.le_refl _)
      have HIn := Lib.hid (fun h => Sk.nth_in (c := Sk.run (s.pos n) x k) (x k) h)
      have HCan : Hid (Sk.can (s.pos n) x k = (Sk.some' (Sk.run (s.pos n) x k) && decide ((G.outcome (Sk.run (s.pos n) x k)).1 = 0))) := Lib.hid rfl
      have HNx := Lib.hid (fun (hcan : Sk.can (s.pos n) x k = true) W lb F m (hm : m = Sk.nth (Sk.run (s.pos n) x k) (x k)) (ha : Sk.At base W g (s'.push (n + k) m (G.next (s'.pos (n + k)) m) lb F) (n + k + 1)) (hkg : Sk.Kg base wr W) => HPk.out.next hcan m hm ha hkg)
      have HDone := Lib.hid (fun (hcan : Sk.can (s.pos n) x k = false) W (hb : Below wr.heap.size wr W) => show Sk.PlayEnd base g s n x N w (.returned (.int .i64 (k : Int))) W from ⟨k, s', rfl, hk, fun _ => hcan, HPk.out.below hb⟩)
      have HMk := Lib.hid (fun m W (hb : Below wr.heap.size wr W) => zca base W g s' (n + k) m (HPk.out.at'.below hb) (by have := HN.out; omega) (HT.out W (hBw.trans (hb.mono hbw))) (Nat.le_trans hbw hb.size))
      have HPo : Hid (∀ W, Below wr.heap.size wr W → Calls Tryz.prog 18 #[.pointer (some ⟨g, 0, none⟩)] W fun e w' => e = .returned (.agg (posC (s'.pos (n + k)))) ∧ Below W.heap.size W w') := Lib.hid (fun W hb => zey base W g s' (n + k) (HPk.out.at'.below hb))
      have HPi : Hid (∀ W, Below wr.heap.size wr W → Calls Tryz.prog 37 #[.agg (posC (Sk.run (s.pos n) x k)), .int .i64 (x k)] W fun e w' => e = .returned (.tuple #[.agg (M.cell (Sk.nth (Sk.run (s.pos n) x k) (x k))).toArray, .bool (Sk.some' (Sk.run (s.pos n) x k))]) ∧ Below W.heap.size W w') := Lib.hid (fun W hb => zhg _ (x k) W hok (HT.out W (hBw.trans (hb.mono hbw))))
      have HW := Lib.hid (fun m W e W' (hm : m ∈ G.list (Sk.run (s.pos n) x k)) (he : Sk.MakeEnd base g s' (n + k) m W e W') => Sk.make_way hcx hm he)
      rw [hcx] at HPo
      obtain ⟨c, hcc⟩ : ∃ c, Sk.run (s.pos n) x k = c := ⟨_, rfl⟩
      obtain ⟨m, hmm⟩ : ∃ m, Sk.nth c (x k) = m := ⟨_, rfl⟩
      obtain ⟨ok, hoo⟩ : ∃ o, Sk.some' c = o := ⟨_, rfl⟩
      rw [hcc] at HPo HPi HW HIn HCan HNx
      rw [hmm] at HPi HIn HNx
      rw [hoo] at HPi HIn HCan
      obtain ⟨xk, hxk⟩ : ∃ y, x k = y := ⟨_, rfl⟩
      rw [hxk] at HPi Hcr
      have hlt2 : (k : Int) < (N : Int) := by omega
      clear hcr hck hc hcx hok hcc hmm hoo hBw hbw hxk hb
      obtain ⟨f', t', p', d', ca'⟩ := m
      go_upto_region 4 with fail
      refine wp_region_held (S := fun W => Below wr.heap.size wr W) (by kernel_rfl) ?_
      have hS : Below wr.heap.size wr wr.drew := (Below.refl _ _).drew
      show wpAnyH _ _ _ _ _ _ _ _ wr.drew
      refine Sk.cut2 (F := fun (mb : Nat) W => Below wr.heap.size wr W ∧ RowAt W mb 47 (M.cell (f', t', p', d', ca')).toArray) (G := ?G) ?rest ?main
      case main =>
        intro key
        refine takeD 0 (some 15) (.pointer (some ⟨g, 0, none⟩)) (by kernel_rfl) (by kernel_rfl) (by kernel_rfl) (by kernel_rfl) (by kernel_rfl) (fun _ _ _ h => h) (zo (v0 := .pointer (some ⟨g, 0, none⟩)) (by kernel_rfl) (fun _ => by kernel_rfl) rfl) hS ?_
        simp only [Act.put, List.setIfInBounds_toArray, List.set_cons_succ, List.set_cons_zero]
        refine takeD 2 (some 17) (.slice (some ⟨b, off, none⟩) N cap) (by kernel_rfl) (by kernel_rfl) (by kernel_rfl) (by kernel_rfl) (by kernel_rfl) (fun _ _ _ h => h) (zo (v0 := .slice (some ⟨b, off, none⟩) N cap) (by kernel_rfl) (fun _ => by kernel_rfl) rfl) hS ?_
        simp only [Act.put, List.setIfInBounds_toArray, List.set_cons_succ, List.set_cons_zero]
        refine takeD 3 (some 18) (.int .i64 (k : Int)) (by kernel_rfl) (by kernel_rfl) (by kernel_rfl) (by kernel_rfl) (by kernel_rfl) (fun _ _ _ h => h) (zo (v0 := .int .i64 (k : Int)) (by kernel_rfl) (fun _ => by kernel_rfl) rfl) hS ?_
        simp only [Act.put, List.setIfInBounds_toArray, List.set_cons_succ, List.set_cons_zero]
        refine takeD 4 (some 19) (.pointer (some ⟨b, off + k, none⟩)) (by kernel_rfl) (by kernel_rfl) (by kernel_rfl) (by kernel_rfl) (by kernel_rfl) (fun _ _ _ h => h) (zo (v0 := .pointer (some ⟨b, off + k, none⟩)) (by kernel_rfl) (fun w9 => Sk.exec_ixi (.tmp 17) (.tmp 18) (n := N) (cap := cap) (by kernel_rfl) (by kernel_rfl) (by kernel_rfl) w9 hlt) rfl) hS ?_
        simp only [Act.put, List.setIfInBounds_toArray, List.set_cons_succ, List.set_cons_zero]
        refine takeD 5 (some 20) (.int .i64 xk) (by kernel_rfl) (by kernel_rfl) (by kernel_rfl) (by kernel_rfl) (by kernel_rfl) (fun _ _ _ h => h) (zt (by kernel_rfl) 3 (.tmp 19) (by kernel_rfl) ⟨b, off + k, none⟩ (by kernel_rfl) (fun w9 => Sk.load_int _ _ w9) (fun w9 h9 => Hcr.out w9 h9)) hS ?_
        simp only [Act.put, List.setIfInBounds_toArray, List.set_cons_succ, List.set_cons_zero]
        refine wpAnyH_all (rs := [1, 10]) (by kernel_rfl) (by simp) (fun i hi => ?_)
        rcases (show i = 1 ∨ i = 10 by simpa using hi) with rfl | rfl
        · refine zaf 1 (some 16) 18 (#[.pointer (some ⟨g, 0, none⟩)]) (.agg (posC c)) (fun W => Below wr.drew.heap.size wr.drew W) (by kernel_rfl) (by kernel_rfl) (by kernel_rfl) (by kernel_rfl) (HPo.out _ hS) (fun w4 hb4 => ?_)
          simp only [Act.put, List.setIfInBounds_toArray, List.set_cons_succ, List.set_cons_zero]
          have hS4 : Below wr.heap.size wr w4 := hS.trans (hb4.mono hS.size)
          refine ⟨hS4, ?_⟩
          refine wpAnyH_all (rs := [6, 10]) (by kernel_rfl) (by simp) (fun i hi => ?_)
          rcases (show i = 6 ∨ i = 10 by simpa using hi) with rfl | rfl
          · refine zaf 6 (some 21) 37 (#[.agg (posC c), .int .i64 xk]) (.tuple #[.agg (M.cell (f', t', p', d', ca')).toArray, .bool ok]) (fun W => Below w4.heap.size w4 W) (by kernel_rfl) (by kernel_rfl) (by kernel_rfl) (by kernel_rfl) (HPi.out _ hS4) (fun w5 hb5 => ?_)
            simp only [Act.put, List.setIfInBounds_toArray, List.set_cons_succ, List.set_cons_zero]
            have hS5 : Below wr.heap.size wr w5 := hS4.trans (hb5.mono hS4.size)
            refine ⟨hS5, ?_⟩
            refine takeD 7 (some 14) (.tuple #[.agg (M.cell (f', t', p', d', ca')).toArray, .bool ok]) (by kernel_rfl) (by kernel_rfl) (by kernel_rfl) (by kernel_rfl) (by kernel_rfl) (fun _ _ _ h => h) (zo (v0 := .tuple #[.agg (M.cell (f', t', p', d', ca')).toArray, .bool ok]) (by kernel_rfl) (fun _ => by kernel_rfl) rfl) hS5 ?_
            simp only [Act.put, List.setIfInBounds_toArray, List.set_cons_succ, List.set_cons_zero]
            refine takeD 8 (some 22) (.agg (M.cell (f', t', p', d', ca')).toArray) (by kernel_rfl) (by kernel_rfl) (by kernel_rfl) (by kernel_rfl) (by kernel_rfl) (fun _ _ _ h => h) (zo (v0 := .agg (M.cell (f', t', p', d', ca')).toArray) (by kernel_rfl) (fun _ => by kernel_rfl) rfl) hS5 ?_
            simp only [Act.put, List.setIfInBounds_toArray, List.set_cons_succ, List.set_cons_zero]
            refine takeD 9 (some 23) (.bool ok) (by kernel_rfl) (by kernel_rfl) (by kernel_rfl) (by kernel_rfl) (by kernel_rfl) (fun _ _ _ h => h) (zo (v0 := .bool ok) (by kernel_rfl) (fun _ => by kernel_rfl) rfl) hS5 ?_
            simp only [Act.put, List.setIfInBounds_toArray, List.set_cons_succ, List.set_cons_zero]
            refine wpAnyH_all (rs := [10]) (by kernel_rfl) (by simp) (fun j hj => ?_)
            obtain rfl : j = 10 := by simpa using hj
            clear hj
            refine zz 10 (some 6) (.pointer (some ⟨w5.heap.size, 0, none⟩)) (w5.alloc (.cells #[.int .i8 0, .int .i8 0, .int .u8 0, .int .u8 0, .bool false] 47)) (by kernel_rfl) (by kernel_rfl) (by kernel_rfl) (by kernel_rfl) ?_
            simp only [Act.put, List.setIfInBounds_toArray, List.set_cons_succ, List.set_cons_zero]
            have hSa : Below wr.heap.size wr (w5.alloc (.cells #[.int .i8 0, .int .i8 0, .int .u8 0, .int .u8 0, .bool false] 47)) := hS5.alloc hS5.size _
            have hgr := RowAt.new w5 #[.int .i8 0, .int .i8 0, .int .u8 0, .int .u8 0, .bool false] 47
            have hle := hS5.size
            obtain ⟨mb, hmb⟩ : ∃ y, w5.heap.size = y := ⟨_, rfl⟩
            obtain ⟨wa, hwa⟩ : ∃ W, w5.alloc (.cells #[.int .i8 0, .int .i8 0, .int .u8 0, .int .u8 0, .bool false] 47) = W := ⟨_, rfl⟩
            rw [hwa] at hSa hgr ⊢
            rw [hmb] at hgr hle ⊢
            clear hwa hmb
            refine ⟨hSa, ?_⟩
            refine Sk.takeStore 11 47 (.tmp 6) (.tmp 22) mb 0 (M.cell (f', t', p', d', ca')).toArray (by kernel_rfl) (by kernel_rfl) (by kernel_rfl) (by kernel_rfl) (by kernel_rfl) (by kernel_rfl) (by kernel_rfl) (Sk.there_mv hgr (by kernel_rfl)) (Sk.size_mvR _) (Sk.one_mvR _) ?_
            obtain ⟨hS9, hm9⟩ := Sk.mv_stored (f', t', p', d', ca') hSa hgr (by kernel_rfl) hle
            refine ⟨hS9, ?_⟩
            refine takeD 12 (some 7) (.bool ok) (by kernel_rfl) (by kernel_rfl) (by kernel_rfl) (by kernel_rfl) (by kernel_rfl) (fun _ _ _ h => h) (zo (v0 := .bool ok) (by kernel_rfl) (fun _ => by kernel_rfl) rfl) hS9 ?_
            simp only [Act.put, List.setIfInBounds_toArray, List.set_cons_succ, List.set_cons_zero]
            refine wpAnyH_done (by kernel_rfl) ?_ _
            obtain ⟨w9, hw9⟩ : ∃ W, (wa).setCells mb 0 (M.cell (f', t', p', d', ca')).toArray.toList = W := ⟨_, rfl⟩
            rw [hw9] at hS9 hm9 ⊢
            exact key mb w9 ⟨hS9, hm9⟩
          · refine zz 10 (some 6) (.pointer (some ⟨w4.heap.size, 0, none⟩)) (w4.alloc (.cells #[.int .i8 0, .int .i8 0, .int .u8 0, .int .u8 0, .bool false] 47)) (by kernel_rfl) (by kernel_rfl) (by kernel_rfl) (by kernel_rfl) ?_
            simp only [Act.put, List.setIfInBounds_toArray, List.set_cons_succ, List.set_cons_zero]
            have hSa : Below wr.heap.size wr (w4.alloc (.cells #[.int .i8 0, .int .i8 0, .int .u8 0, .int .u8 0, .bool false] 47)) := hS4.alloc hS4.size _
            have hgr := RowAt.new w4 #[.int .i8 0, .int .i8 0, .int .u8 0, .int .u8 0, .bool false] 47
            have hle := hS4.size
            obtain ⟨mb, hmb⟩ : ∃ y, w4.heap.size = y := ⟨_, rfl⟩
            obtain ⟨wa, hwa⟩ : ∃ W, w4.alloc (.cells #[.int .i8 0, .int .i8 0, .int .u8 0, .int .u8 0, .bool false] 47) = W := ⟨_, rfl⟩
            rw [hwa] at hSa hgr ⊢
            rw [hmb] at hgr hle ⊢
            clear hwa hmb
            refine ⟨hSa, ?_⟩
            refine takeCall 6 (some 21) 37 (#[.agg (posC c), .int .i64 xk]) (.tuple #[.agg (M.cell (f', t', p', d', ca')).toArray, .bool ok]) (fun W => Below wa.heap.size wa W) (by kernel_rfl) (by kernel_rfl) (by kernel_rfl) (by kernel_rfl) (by kernel_rfl) (HPi.out _ hSa) (fun w5 hb5 => ?_)
            simp only [Act.put, List.setIfInBounds_toArray, List.set_cons_succ, List.set_cons_zero]
            have hS5 : Below wr.heap.size wr w5 := hSa.trans (hb5.mono hSa.size)
            refine ⟨hS5, ?_⟩
            replace hgr := hgr.below hb5
            refine takeD 7 (some 14) (.tuple #[.agg (M.cell (f', t', p', d', ca')).toArray, .bool ok]) (by kernel_rfl) (by kernel_rfl) (by kernel_rfl) (by kernel_rfl) (by kernel_rfl) (fun _ _ _ h => h) (zo (v0 := .tuple #[.agg (M.cell (f', t', p', d', ca')).toArray, .bool ok]) (by kernel_rfl) (fun _ => by kernel_rfl) rfl) hS5 ?_
            simp only [Act.put, List.setIfInBounds_toArray, List.set_cons_succ, List.set_cons_zero]
            refine takeD 8 (some 22) (.agg (M.cell (f', t', p', d', ca')).toArray) (by kernel_rfl) (by kernel_rfl) (by kernel_rfl) (by kernel_rfl) (by kernel_rfl) (fun _ _ _ h => h) (zo (v0 := .agg (M.cell (f', t', p', d', ca')).toArray) (by kernel_rfl) (fun _ => by kernel_rfl) rfl) hS5 ?_
            simp only [Act.put, List.setIfInBounds_toArray, List.set_cons_succ, List.set_cons_zero]
            refine takeD 9 (some 23) (.bool ok) (by kernel_rfl) (by kernel_rfl) (by kernel_rfl) (by kernel_rfl) (by kernel_rfl) (fun _ _ _ h => h) (zo (v0 := .bool ok) (by kernel_rfl) (fun _ => by kernel_rfl) rfl) hS5 ?_
            simp only [Act.put, List.setIfInBounds_toArray, List.set_cons_succ, List.set_cons_zero]
            refine Sk.takeStore 11 47 (.tmp 6) (.tmp 22) mb 0 (M.cell (f', t', p', d', ca')).toArray (by kernel_rfl) (by kernel_rfl) (by kernel_rfl) (by kernel_rfl) (by kernel_rfl) (by kernel_rfl) (by kernel_rfl) (Sk.there_mv hgr (by kernel_rfl)) (Sk.size_mvR _) (Sk.one_mvR _) ?_
            obtain ⟨hS9, hm9⟩ := Sk.mv_stored (f', t', p', d', ca') hS5 hgr (by kernel_rfl) hle
            refine ⟨hS9, ?_⟩
            refine takeD 12 (some 7) (.bool ok) (by kernel_rfl) (by kernel_rfl) (by kernel_rfl) (by kernel_rfl) (by kernel_rfl) (fun _ _ _ h => h) (zo (v0 := .bool ok) (by kernel_rfl) (fun _ => by kernel_rfl) rfl) hS9 ?_
            simp only [Act.put, List.setIfInBounds_toArray, List.set_cons_succ, List.set_cons_zero]
            refine wpAnyH_done (by kernel_rfl) ?_ _
            obtain ⟨w9, hw9⟩ : ∃ W, (w5).setCells mb 0 (M.cell (f', t', p', d', ca')).toArray.toList = W := ⟨_, rfl⟩
            rw [hw9] at hS9 hm9 ⊢
            exact key mb w9 ⟨hS9, hm9⟩
        · refine zz 10 (some 6) (.pointer (some ⟨wr.drew.heap.size, 0, none⟩)) (wr.drew.alloc (.cells #[.int .i8 0, .int .i8 0, .int .u8 0, .int .u8 0, .bool false] 47)) (by kernel_rfl) (by kernel_rfl) (by kernel_rfl) (by kernel_rfl) ?_
          simp only [Act.put, List.setIfInBounds_toArray, List.set_cons_succ, List.set_cons_zero]
          have hSa : Below wr.heap.size wr (wr.drew.alloc (.cells #[.int .i8 0, .int .i8 0, .int .u8 0, .int .u8 0, .bool false] 47)) := hS.alloc hS.size _
          have hgr := RowAt.new wr.drew #[.int .i8 0, .int .i8 0, .int .u8 0, .int .u8 0, .bool false] 47
          have hle := hS.size
          obtain ⟨mb, hmb⟩ : ∃ y, wr.drew.heap.size = y := ⟨_, rfl⟩
          obtain ⟨wa, hwa⟩ : ∃ W, wr.drew.alloc (.cells #[.int .i8 0, .int .i8 0, .int .u8 0, .int .u8 0, .bool false] 47) = W := ⟨_, rfl⟩
          rw [hwa] at hSa hgr ⊢
          rw [hmb] at hgr hle ⊢
          clear hwa hmb
          refine ⟨hSa, ?_⟩
          refine takeCall 1 (some 16) 18 (#[.pointer (some ⟨g, 0, none⟩)]) (.agg (posC c)) (fun W => Below wa.heap.size wa W) (by kernel_rfl) (by kernel_rfl) (by kernel_rfl) (by kernel_rfl) (by kernel_rfl) (HPo.out _ hSa) (fun w4 hb4 => ?_)
          simp only [Act.put, List.setIfInBounds_toArray, List.set_cons_succ, List.set_cons_zero]
          have hS4 : Below wr.heap.size wr w4 := hSa.trans (hb4.mono hSa.size)
          refine ⟨hS4, ?_⟩
          replace hgr := hgr.below hb4
          refine takeCall 6 (some 21) 37 (#[.agg (posC c), .int .i64 xk]) (.tuple #[.agg (M.cell (f', t', p', d', ca')).toArray, .bool ok]) (fun W => Below w4.heap.size w4 W) (by kernel_rfl) (by kernel_rfl) (by kernel_rfl) (by kernel_rfl) (by kernel_rfl) (HPi.out _ hS4) (fun w5 hb5 => ?_)
          simp only [Act.put, List.setIfInBounds_toArray, List.set_cons_succ, List.set_cons_zero]
          have hS5 : Below wr.heap.size wr w5 := hS4.trans (hb5.mono hS4.size)
          refine ⟨hS5, ?_⟩
          replace hgr := hgr.below hb5
          refine takeD 7 (some 14) (.tuple #[.agg (M.cell (f', t', p', d', ca')).toArray, .bool ok]) (by kernel_rfl) (by kernel_rfl) (by kernel_rfl) (by kernel_rfl) (by kernel_rfl) (fun _ _ _ h => h) (zo (v0 := .tuple #[.agg (M.cell (f', t', p', d', ca')).toArray, .bool ok]) (by kernel_rfl) (fun _ => by kernel_rfl) rfl) hS5 ?_
          simp only [Act.put, List.setIfInBounds_toArray, List.set_cons_succ, List.set_cons_zero]
          refine takeD 8 (some 22) (.agg (M.cell (f', t', p', d', ca')).toArray) (by kernel_rfl) (by kernel_rfl) (by kernel_rfl) (by kernel_rfl) (by kernel_rfl) (fun _ _ _ h => h) (zo (v0 := .agg (M.cell (f', t', p', d', ca')).toArray) (by kernel_rfl) (fun _ => by kernel_rfl) rfl) hS5 ?_
          simp only [Act.put, List.setIfInBounds_toArray, List.set_cons_succ, List.set_cons_zero]
          refine takeD 9 (some 23) (.bool ok) (by kernel_rfl) (by kernel_rfl) (by kernel_rfl) (by kernel_rfl) (by kernel_rfl) (fun _ _ _ h => h) (zo (v0 := .bool ok) (by kernel_rfl) (fun _ => by kernel_rfl) rfl) hS5 ?_
          simp only [Act.put, List.setIfInBounds_toArray, List.set_cons_succ, List.set_cons_zero]
          refine Sk.takeStore 11 47 (.tmp 6) (.tmp 22) mb 0 (M.cell (f', t', p', d', ca')).toArray (by kernel_rfl) (by kernel_rfl) (by kernel_rfl) (by kernel_rfl) (by kernel_rfl) (by kernel_rfl) (by kernel_rfl) (Sk.there_mv hgr (by kernel_rfl)) (Sk.size_mvR _) (Sk.one_mvR _) ?_
          obtain ⟨hS9, hm9⟩ := Sk.mv_stored (f', t', p', d', ca') hS5 hgr (by kernel_rfl) hle
          refine ⟨hS9, ?_⟩
          refine takeD 12 (some 7) (.bool ok) (by kernel_rfl) (by kernel_rfl) (by kernel_rfl) (by kernel_rfl) (by kernel_rfl) (fun _ _ _ h => h) (zo (v0 := .bool ok) (by kernel_rfl) (fun _ => by kernel_rfl) rfl) hS9 ?_
          simp only [Act.put, List.setIfInBounds_toArray, List.set_cons_succ, List.set_cons_zero]
          refine wpAnyH_done (by kernel_rfl) ?_ _
          obtain ⟨w9, hw9⟩ : ∃ W, (w5).setCells mb 0 (M.cell (f', t', p', d', ca')).toArray.toList = W := ⟨_, rfl⟩
          rw [hw9] at hS9 hm9 ⊢
          exact key mb w9 ⟨hS9, hm9⟩
      case rest =>
        rintro mb W4 ⟨hS4, hm4⟩
        have HS4 := Lib.hid hS4
        clear hS hS4 Hcr HPo HPi
        cases ok
        · have hcan := HCan.out
          rw [Bool.false_and] at hcan
          have HD := Lib.hid (HDone.out hcan)
          clear hcan HMk HW HNx HDone HIn HCan
          go_wp2
          go_ret
          exact HD.out _ HS4.out
        · by_cases ho : (G.outcome c).1 = 0
          · have hcan := HCan.out
            rw [Bool.true_and, decide_eq_true ho] at hcan
            have HNx2 := Lib.hid (HNx.out hcan)
            have HMm : Hid (Calls Tryz.prog 15 #[.pointer (some ⟨g, 0, none⟩), .agg (M.cell (f', t', p', d', ca')).toArray] W4 (fun e w' => e = .returned (.int .i64 0) ∧ ∃ lb F, Sk.At base w' g (s'.push (n + k) (f', t', p', d', ca') (G.next (s'.pos (n + k)) (f', t', p', d', ca')) lb F) (n + k + 1) ∧ Sk.Kg base W4 w')) := Lib.hid ((HMk.out _ W4 HS4.out).mono fun e w' he => ((HW.out _ _ _ _ (HIn.out rfl) he).resolve_left (fun h => h.1 ho)).2)
            clear HMk HW HIn HNx HDone HCan hcan ho
            go_wp2_with (first
              | ((with_reducible refine zs rfl 47 _ rfl Tryz.underlying47 rfl ?_); refine ⟨_, _, _, rfl, hm4, Sk.size_mvR _, ?_⟩)
              | (go_at_call 15; (with_reducible refine HMm.out.mono ?_); rintro e W5 ⟨rfl, lb, F, ha, hkg⟩; have HZ := Lib.hid (HNx2.out _ _ _ _ rfl ha ((Sk.Kg.of_below base HS4.out).trans hkg)); clear ha hkg))
            obtain ⟨s2, hp2⟩ := HZ.out
            obtain ⟨e1, e2⟩ := Sk.st_next (by have := HN.out; omega) hlt
            exact ⟨⟨k + 1, s2, hlt, congrArg _ e1, Lib.hid hp2⟩, e2⟩
          · have hcan := HCan.out
            rw [Bool.true_and, decide_eq_false ho] at hcan
            have HD := Lib.hid (HDone.out hcan)
            have HMm : Hid (Calls Tryz.prog 15 #[.pointer (some ⟨g, 0, none⟩), .agg (M.cell (f', t', p', d', ca')).toArray] W4 (fun e w' => e = .returned (.int .i64 190) ∧ Below W4.heap.size W4 w')) := Lib.hid ((HMk.out _ W4 HS4.out).mono fun e w' he => ((HW.out _ _ _ _ (HIn.out rfl) he).resolve_right (fun h => ho h.1)).2)
            clear HMk HW HIn HNx HDone HCan hcan ho
            go_wp2_with (first
              | ((with_reducible refine zs rfl 47 _ rfl Tryz.underlying47 rfl ?_); refine ⟨_, _, _, rfl, hm4, Sk.size_mvR _, ?_⟩)
              | (go_at_call 15; (with_reducible refine HMm.out.mono ?_); rintro e W5 ⟨rfl, hb5⟩; have HB5 := Lib.hid (HS4.out.trans (hb5.mono HS4.out.size)); clear hb5))
            go_ret
            exact HD.out _ HB5.out
    · obtain rfl : k = N := by omega
      go_wp2
      go_ret
      exact ⟨k, s', rfl, Nat.le_refl _, fun h => absurd h (Nat.lt_irrefl _), HPk.out⟩
end Go.Proofs.YtbakeajgolhkgaaGreatDoor
