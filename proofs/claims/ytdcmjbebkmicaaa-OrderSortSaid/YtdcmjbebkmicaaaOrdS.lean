/- The program's package order: what tells of two moves which comes ahead. -/
import Derived.Test.YtdcmjbebkmicaaaOrdC
import Derived.Test.YtdcmjbebkmicaaaTake
namespace Go.Proofs.Ytdcmjbebkmicaaa
open Go.RowKit Go.Sort Go.Lib

namespace O
def cfV (x y pa pb : Int) (ma mb : Int) : Int :=
  let n := if cmp y x != 0 then cmp y x else cmp pb pa
  if n == 0 && decide (0 < x) then cmp ma mb else n
/-- What is told of two moves. -/
def cf (c : Nat → Int) (a b : Mv) : Int := cfV (taken c a) (taken c b) a.2.2.1 b.2.2.1 (moving c a) (moving c b)
end O
theorem wpOp_atO {P : Program} {ops : Array Oper} {Q : Exit → Act → World → Prop} {i : Nat} {o : Oper} {a : Act} {w : World} {K : Act → World → Prop} (ho : ops[i]? = some o) (hw : Region.wanted o (yielded ops a.tmps) = true) (h : o.wp P a w K Q) : wpOp P ops Q i K a w := by
  unfold wpOp; rw [ho]; simp only [hw, if_true]; exact .inl h
theorem Try.info_mv (n : Nat) (h : n = 5) : (Try.prog.info? 33).map (·.size) = some n := by subst h; kernel_rfl
/-- A move is loaded, in a region that draws. -/
theorem quiet_load_mv {K : Act → Prop} {a : Act} {o : Oper} {w : World} (x : Operand) (ho : o.op = .load 33 x)
    (h : ∃ (g : Nat) (T : TypeId) (cs : Array Value), a.eval x = .pointer (some ⟨g, 0, none⟩) ∧ RowAt w g T cs ∧ cs.size = 5 ∧ K (a.put o.dst (.agg cs))) : o.quiet Try.prog a (fun w' => ∃ p : GrownBy, w' = grow (w.drewN p.n) p.os) K := by
  obtain ⟨g, T, cs, hx, hp, hs, hk⟩ := h
  refine ⟨.agg cs, fun w' hw => ?_, hk⟩
  obtain ⟨p, rfl⟩ := hw
  have hg := (hp.below (grown_below w p.n p.os)).heap
  unfold Oper.quietAt execOp
  simp only [ho, hx, Instr.loadAt, Instr.sureAddr, Sem.run_bind, Sem.run_pure, Result.andThen_ok, run_loadVar_row _ g T 33 cs (0, 0) _ hg Try.underlying33 rfl (Try.info_mv _ hs)]
  exact ⟨rfl, rfl⟩
theorem O.taken_row (c : Nat → Int) (f t p d : Int) (ca : Bool) (v : Int) (w : World) (hc : PosOk c) (h : taken c (f, t, p, d, ca) = v) : Calls Try.prog 14 #[.agg (posC c), .agg #[.int .i8 f, .int .i8 t, .int .u8 p, .int .u8 d, .bool ca]] w fun e w' => e = .returned (.int .u8 v) ∧ Grows w w' :=
  taken_eq c (f, t, p, d, ca) v w hc h
theorem O.moving_row (c : Nat → Int) (f t p d : Int) (ca : Bool) (v : Int) (w : World) (hc : PosOk c) (h : moving c (f, t, p, d, ca) = v) : Calls Try.prog 15 #[.agg (posC c), .agg #[.int .i8 f, .int .i8 t, .int .u8 p, .int .u8 d, .bool ca]] w fun e w' => e = .returned (.int .u8 v) ∧ Grows w w' :=
  moving_eq c (f, t, p, d, ca) v w hc h
set_option maxRecDepth 100000 in
set_option maxHeartbeats 4000000 in
theorem sort1_any (c : Nat → Int) (g : Nat) (a b : Mv) (w : World) (hc : PosOk c) (hp : PosAt w g c) :
    Calls Try.prog 34 #[.agg (M.cell a).toArray, .agg (M.cell b).toArray, .pointer (some ⟨g, 0, none⟩)] w fun e w' => e = .returned (.int .i64 (O.cf c a b)) ∧ Grows w w' := by
  obtain ⟨x, hx⟩ : ∃ x, O.taken c a = x := ⟨_, rfl⟩
  obtain ⟨y, hy⟩ : ∃ y, O.taken c b = y := ⟨_, rfl⟩
  obtain ⟨u, hu⟩ : ∃ u, O.moving c a = u := ⟨_, rfl⟩
  obtain ⟨v, hv⟩ : ∃ v, O.moving c b = v := ⟨_, rfl⟩
  have hcf : O.cf c a b = O.cfV x y a.2.2.1 b.2.2.1 u v := by unfold O.cf; rw [hx, hy, hu, hv]
  rw [hcf]
  clear hcf
  have hx0 := (O.taken_bd hc a).1
  rw [hx] at hx0
  have HC := Lib.hid hc
  clear hc
  obtain ⟨f1, t1, p1, d1, c1⟩ := a
  obtain ⟨f2, t2, p2, d2, c2⟩ := b
  dsimp only
  obtain ⟨n, hn⟩ : ∃ n, (if (O.cmp y x != 0) = true then O.cmp y x else O.cmp p2 p1) = n := ⟨_, rfl⟩
  have hV : O.cfV x y p1 p2 u v = if (n == 0 && decide (0 < x)) = true then O.cmp u v else n := by rw [← hn]; rfl
  rw [hV]
  have HN := Lib.hid hn
  clear hV hn
  obtain ⟨r, hr⟩ : ∃ r, (if (n == 0 && decide (0 < x)) = true then O.cmp u v else n) = r := ⟨_, rfl⟩
  rw [hr]
  have HRr := Lib.hid hr
  clear hr
  obtain ⟨A1, hA1⟩ : ∃ A : Array Value, #[.int .i8 f1, .int .i8 t1, .int .u8 p1, .int .u8 d1, .bool c1] = A := ⟨_, rfl⟩
  obtain ⟨A2, hA2⟩ : ∃ A : Array Value, #[.int .i8 f2, .int .i8 t2, .int .u8 p2, .int .u8 d2, .bool c2] = A := ⟨_, rfl⟩
  have HB : Hid (∀ W, Grows ((w.alloc (.cells A1 33)).alloc (.cells A2 33)) W → (PosAt W g c ∧ RowAt W w.heap.size 33 A1 ∧ RowAt W (w.heap.size + 1) 33 A2) ∧ (g < W.heap.size ∧ w.heap.size < W.heap.size ∧ w.heap.size + 1 < W.heap.size) ∧ W.cell? ⟨w.heap.size, 2, none⟩ = some (.int .u8 p1) ∧ W.cell? ⟨w.heap.size + 1, 2, none⟩ = some (.int .u8 p2)) := Lib.hid (fun W h => by
    have h1 := ((hp.alloc (.cells A1 33)).alloc (.cells A2 33)).below h.below
    have h2 := ((RowAt.new w A1 33).alloc (.cells A2 33)).below h.below
    have h3 := (RowAt.new (w.alloc (.cells A1 33)) A2 33).below h.below
    rw [show (w.alloc (.cells A1 33)).heap.size = w.heap.size + 1 by show (w.heap.push _).size = _; simp] at h3
    refine ⟨⟨h1, h2, h3⟩, ⟨h1.lt, h2.lt, h3.lt⟩, ?_, ?_⟩
    · rw [h2.cell, ← hA1]; rfl
    · rw [h3.cell, ← hA2]; rfl)
  have hgw : Grows w ((w.alloc (.cells A1 33)).alloc (.cells A2 33)) := (Grows.alloc _ _).trans (Grows.alloc _ _)
  have hg0 := Grows.refl ((w.alloc (.cells A1 33)).alloc (.cells A2 33))
  obtain ⟨⟨hp, hr1, hr2⟩, hls, q1, q2⟩ := HB.out _ hg0
  have hs1 : A1.size = 5 := by rw [← hA1]; rfl
  have hs2 : A2.size = 5 := by rw [← hA2]; rfl
  unfold M.cell
  rw [show ([.int .i8 f1, .int .i8 t1, .int .u8 p1, .int .u8 d1, .bool c1] : List Value).toArray = A1 from hA1, show ([.int .i8 f2, .int .i8 t2, .int .u8 p2, .int .u8 d2, .bool c2] : List Value).toArray = A2 from hA2]
  have KT1 := Lib.hid (fun W => O.taken_row c f1 t1 p1 d1 c1 x W HC.out hx)
  have KT2 := Lib.hid (fun W => O.taken_row c f2 t2 p2 d2 c2 y W HC.out hy)
  have KM1 := Lib.hid (fun W => O.moving_row c f1 t1 p1 d1 c1 u W HC.out hu)
  have KM2 := Lib.hid (fun W => O.moving_row c f2 t2 p2 d2 c2 v W HC.out hv)
  rw [hA1] at KT1 KM1
  rw [hA2] at KT2 KM2
  clear hA1 hA2 hx hy hu hv
  go_enter Try.func34, Try.ntmps34
  go_wp2_with fail
  refine region_grows (by kernel_rfl) (by kernel_rfl) ?_
  repeat (first
    | (go_big_quiet_want; refine quiet_load_grown _ rfl ⟨_, _, rfl, hp, ?_⟩; simp only [Act.put, List.setIfInBounds_toArray, List.set_cons_succ, List.set_cons_zero]; go_big_quiet_on)
    | (go_big_quiet_want; refine quiet_load_mv _ rfl ⟨_, _, _, rfl, hr1, hs1, ?_⟩; simp only [Act.put, List.setIfInBounds_toArray, List.set_cons_succ, List.set_cons_zero]; go_big_quiet_on)
    | (go_big_quiet_want; refine quiet_load_mv _ rfl ⟨_, _, _, rfl, hr2, hs2, ?_⟩; simp only [Act.put, List.setIfInBounds_toArray, List.set_cons_succ, List.set_cons_zero]; go_big_quiet_on)
    | go_big_quiet_step (first
      | (go_at_call 14; with_reducible exact quiet_grows (KT1.out _))
      | (go_at_call 14; with_reducible exact quiet_grows (KT2.out _))))
  refine wpQuiet_nil ?_
  intro w3 hg3
  go_wp2_with fail
  replace hg0 := hg3
  clear hp hr1 hr2 hls q1 q2 hg3
  obtain ⟨⟨hp, hr1, hr2⟩, hls, q1, q2⟩ := HB.out _ hg0
  refine wp_region_held (S := fun W => Grows ((w.alloc (.cells A1 33)).alloc (.cells A2 33)) W) (by kernel_rfl) ?_
  have hSd : Grows ((w.alloc (.cells A1 33)).alloc (.cells A2 33)) w3.drew := hg0.trans (Grows.drewN _ 1)
  refine takeD 0 (some 15) (.int .u8 y) (by kernel_rfl) (by kernel_rfl) (by kernel_rfl) (by kernel_rfl) (by kernel_rfl) (fun _ _ _ h => h) (yi_pure (v0 := .int .u8 y) (by kernel_rfl) (fun _ => by kernel_rfl) rfl) hSd ?_
  simp only [Act.put, List.setIfInBounds_toArray, List.set_cons_succ, List.set_cons_zero]
  refine takeD 1 (some 16) (.int .u8 x) (by kernel_rfl) (by kernel_rfl) (by kernel_rfl) (by kernel_rfl) (by kernel_rfl) (fun _ _ _ h => h) (yi_pure (v0 := .int .u8 x) (by kernel_rfl) (fun _ => by kernel_rfl) rfl) hSd ?_
  simp only [Act.put, List.setIfInBounds_toArray, List.set_cons_succ, List.set_cons_zero]
  refine takeD 3 (some 18) (.pointer (some ⟨w.heap.size + 1, 2, none⟩)) (by kernel_rfl) (by kernel_rfl) (by kernel_rfl) (by kernel_rfl) (by kernel_rfl) (fun _ _ _ h => h) (yi_pure (v0 := .pointer (some ⟨w.heap.size + 1, 2, none⟩)) (by kernel_rfl) (fun _ => by kernel_rfl) rfl) hSd ?_
  simp only [Act.put, List.setIfInBounds_toArray, List.set_cons_succ, List.set_cons_zero]
  refine takeD 4 (some 19) (.int .u8 p2) (by kernel_rfl) (by kernel_rfl) (by kernel_rfl) (by kernel_rfl) (by kernel_rfl) (fun _ _ _ h => h) (yi_load (by kernel_rfl) 5 (.tmp 18) (by kernel_rfl) ⟨w.heap.size + 1, 2, none⟩ (by kernel_rfl) (fun w9 => load_u8 _ _ w9) (fun w9 h9 => (HB.out _ h9).2.2.2)) hSd ?_
  simp only [Act.put, List.setIfInBounds_toArray, List.set_cons_succ, List.set_cons_zero]
  refine takeD 5 (some 20) (.pointer (some ⟨w.heap.size, 2, none⟩)) (by kernel_rfl) (by kernel_rfl) (by kernel_rfl) (by kernel_rfl) (by kernel_rfl) (fun _ _ _ h => h) (yi_pure (v0 := .pointer (some ⟨w.heap.size, 2, none⟩)) (by kernel_rfl) (fun _ => by kernel_rfl) rfl) hSd ?_
  simp only [Act.put, List.setIfInBounds_toArray, List.set_cons_succ, List.set_cons_zero]
  refine takeD 6 (some 21) (.int .u8 p1) (by kernel_rfl) (by kernel_rfl) (by kernel_rfl) (by kernel_rfl) (by kernel_rfl) (fun _ _ _ h => h) (yi_load (by kernel_rfl) 5 (.tmp 20) (by kernel_rfl) ⟨w.heap.size, 2, none⟩ (by kernel_rfl) (fun w9 => load_u8 _ _ w9) (fun w9 h9 => (HB.out _ h9).2.2.1)) hSd ?_
  simp only [Act.put, List.setIfInBounds_toArray, List.set_cons_succ, List.set_cons_zero]
  refine wpAnyH_all (rs := [2]) (by kernel_rfl) (by simp) (fun i hi => ?_)
  obtain rfl : i = 2 := by simpa using hi
  clear hi
  refine wpOp_atO rfl rfl ?_
  unfold Oper.wp
  go_simp
  refine (cmp8_any y x _).mono ?_
  rintro e w' ⟨rfl, rfl⟩
  refine ⟨hSd, ?_⟩
  refine wpAnyH_all (rs := [7]) (by kernel_rfl) (by simp) (fun i hi => ?_)
  obtain rfl : i = 7 := by simpa using hi
  clear hi
  refine wpOp_atO rfl rfl ?_
  unfold Oper.wp
  go_simp
  refine (cmp8_any p2 p1 _).mono ?_
  rintro e w' ⟨rfl, rfl⟩
  refine ⟨hSd, ?_⟩
  refine wpAnyH_all (rs := [8]) (by kernel_rfl) (by simp) (fun i hi => ?_)
  obtain rfl : i = 8 := by simpa using hi
  clear hi
  refine wpOp_atO rfl rfl ?_
  unfold Oper.wp
  go_simp
  have hSe : Grows ((w.alloc (.cells A1 33)).alloc (.cells A2 33)) (w3.alloc (.cells #[.int .i64 (O.cmp y x), .int .i64 (O.cmp p2 p1)] 3)).drew := (hg0.trans (Grows.alloc _ _)).trans (Grows.drewN _ 1)
  have ha : RowAt (w3.alloc (.cells #[.int .i64 (O.cmp y x), .int .i64 (O.cmp p2 p1)] 3)).drew w3.heap.size 3 #[.int .i64 (O.cmp y x), .int .i64 (O.cmp p2 p1)] := ⟨(RowAt.new w3 #[.int .i64 (O.cmp y x), .int .i64 (O.cmp p2 p1)] 3).heap⟩
  refine ⟨hSe, ?_⟩
  refine wpAnyH_all (rs := [9]) (by kernel_rfl) (by simp) (fun i hi => ?_)
  obtain rfl : i = 9 := by simpa using hi
  clear hi
  refine wpOp_atO rfl rfl ?_
  unfold Oper.wp
  go_simp
  refine (or2_any w3.heap.size (O.cmp y x) (O.cmp p2 p1) _ (ha.cell 0) (ha.cell 1)).mono ?_
  rintro e w' ⟨rfl, rfl⟩
  refine ⟨hSe, ?_⟩
  rw [HN.out]
  refine takeD 10 (some 8) (.int .i64 n) (by kernel_rfl) (by kernel_rfl) (by kernel_rfl) (by kernel_rfl) (by kernel_rfl) (fun _ _ _ h => h) (yi_pure (v0 := .int .i64 n) (by kernel_rfl) (fun _ => by kernel_rfl) rfl) hSe ?_
  simp only [Act.put, List.setIfInBounds_toArray, List.set_cons_succ, List.set_cons_zero]
  refine wpAnyH_done (by kernel_rfl) ?_ _
  obtain ⟨w4, hw4⟩ : ∃ w4, (w3.alloc (.cells #[.int .i64 (O.cmp y x), .int .i64 (O.cmp p2 p1)] 3)).drew = w4 := ⟨_, rfl⟩
  rw [hw4] at hSe ⊢
  clear hw4 ha hSd hg0 hp hr1 hr2 hls q1 q2
  by_cases h1 : n = 0
  · subst h1
    by_cases h2 : 0 < x
    · have h2' : decide (0 < x) = true := by simpa using h2
      have Hres := Lib.hid (show O.cmp u v = r from by rw [← HRr.out, h2']; rfl)
      obtain ⟨⟨hp, hr1, hr2⟩, hls, q1, q2⟩ := HB.out _ hSe
      go_wp2_with fail
      refine region_grows (by kernel_rfl) (by kernel_rfl) ?_
      repeat (first
        | (go_big_quiet_want; refine quiet_load_grown _ rfl ⟨_, _, rfl, hp, ?_⟩; simp only [Act.put, List.setIfInBounds_toArray, List.set_cons_succ, List.set_cons_zero]; go_big_quiet_on)
        | (go_big_quiet_want; refine quiet_load_mv _ rfl ⟨_, _, _, rfl, hr1, hs1, ?_⟩; simp only [Act.put, List.setIfInBounds_toArray, List.set_cons_succ, List.set_cons_zero]; go_big_quiet_on)
        | (go_big_quiet_want; refine quiet_load_mv _ rfl ⟨_, _, _, rfl, hr2, hs2, ?_⟩; simp only [Act.put, List.setIfInBounds_toArray, List.set_cons_succ, List.set_cons_zero]; go_big_quiet_on)
        | go_big_quiet_step (first
          | (go_at_call 15; with_reducible exact quiet_grows (KM1.out _))
          | (go_at_call 15; with_reducible exact quiet_grows (KM2.out _))
          | (go_at_call 36; exact quiet_grows_same (cmp8_any _ _ _))))
      refine wpQuiet_nil ?_
      intro w5 hg5
      go_wp2_with fail
      go_ret
      exact ⟨ret_int Hres.out, hgw.trans (hSe.trans hg5)⟩
    · have h2' : decide (0 < x) = false := by simpa using h2
      have Hres := Lib.hid (show (0 : Int) = r from by rw [← HRr.out, h2']; rfl)
      go_wp2_with fail
      go_ret
      exact ⟨ret_int Hres.out, hgw.trans hSe⟩
  · have h1' : (n == 0) = false := by simpa using h1
    have Hres := Lib.hid (show n = r from by rw [← HRr.out, h1']; rfl)
    go_wp2_with fail
    go_ret
    exact ⟨ret_int Hres.out, hgw.trans hSe⟩

end Go.Proofs.Ytdcmjbebkmicaaa
