/- The program's package attack: From. -/
import Derived.Test.YtdfgpbighadplaaDoorBy
import Derived.Deep.RegionHeld3
namespace Go.Proofs.YtdfgpbighadplaaDoor
open Go.RowKit Go.Sort

def K.from (c : Nat → Int) (s : Int) : BitVec 64 := if K.there s = true then K.hits (P.kind (c (1 + s.toNat))).toNat (P.color (c (1 + s.toNat))) s (S.all c) else 0#64

theorem pos_range {w : World} {b : Nat} {t : TypeId} {fr : Nat × Nat} {c : Nat → Int} (hg : w.heap[b]? = some (.cells (posC c) t fr)) : w.rangeAt b 0 (posL c) := fun j v hv => by
  rw [Nat.zero_add]
  simp only [World.cell?, hg]
  simpa [posC] using hv

set_option maxRecDepth 100000 in
set_option maxHeartbeats 2000000 in
theorem from_none (c : Nat → Int) (s : Int) (w : World) (h : K.there s = false) :
    Calls Tryd.prog 14 #[.agg (posC c), .int .i64 s] w fun e w' => e = .returned (.int .u64 (U (K.from c s))) ∧ Below w.heap.size w w' := by
  have e := Lib.hid (show K.from c s = 0#64 by unfold K.from; rw [if_neg (by rw [h]; decide)])
  go_enter Tryd.func14, Tryd.ntmps14
  go_wp2_with (go_at_call 25; refine (there_eq _ false _ h).mono ?_; rintro e w' ⟨rfl, rfl⟩)
  go_ret
  exact ⟨ret_int (by rw [e.out]; rfl), (Below.refl _ _).alloc (Nat.le_refl _) _⟩

theorem wpOp_at {P : Program} {ops : Array Oper} {Q : Exit → Act → World → Prop} {i : Nat} {o : Oper} {a : Act} {w : World} {K : Act → World → Prop} (ho : ops[i]? = some o) (hw : Region.wanted o (yielded ops a.tmps) = true) (h : o.wp P a w K Q) : wpOp P ops Q i K a w := by
  unfold wpOp; rw [ho]; simp only [hw, if_true]; exact .inl h

theorem kind_eq (p k : Int) (w : World) (h0 : 0 ≤ p) (h1 : p ≤ 255) (h : P.kind p = k) :
    Calls Tryd.prog 29 #[.int .u8 p] w fun e w' => e = .returned (.int .u8 k) ∧ w = w' := by
  rw [← h]; exact kind_any p w h0 h1

/-- The ways, the table written out. -/
theorem ways_lit (w : World) :
    Calls Tryd.prog 30 #[] w fun e w' => ∃ b : Nat → Nat, e = .returned (.agg (K.tab b)) ∧ K.AllOk b w' ∧ Below w.heap.size w w' :=
  (ways_any w).mono fun _ _ ⟨b, h1, h2, _, h3⟩ => ⟨b, h1, h2, h3⟩

set_option maxRecDepth 100000 in
set_option maxHeartbeats 2000000 in
theorem from_pawn (c : Nat → Int) (s : Nat) (w : World) (hc : BdOk c) (hT : Tb w) (hs : s < 64) (hk : P.kind (c (1 + s)) = 1) :
    Calls Tryd.prog 14 #[.agg (posC c), .int .i64 (s : Int)] w fun e w' => e = .returned (.int .u64 (U (R.pawn (P.color (c (1 + s))) s))) ∧ Below w.heap.size w w' := by
  have hth := Lib.hid (show K.there (s : Int) = true by unfold K.there; simp; omega)
  obtain ⟨h0, h1⟩ := hc s hs
  have Hc := Lib.hid hc
  have HT := Lib.hid hT
  have Hk := Lib.hid hk
  clear hT hc hk
  have hcell : ∀ w' : World, w'.heap[w.heap.size]? = some (.cells (posC c) 31 (0, 0)) → w'.cell? ⟨w.heap.size, 1 + s, none⟩ = some (.int .u8 (c (1 + s))) := fun w' hg => by simp only [World.cell?, hg]; exact posC_board c s hs
  have hcl := hcell _ (heap_alloc_new w (.cells (posC c) 31))
  have hidx : ∀ (b : Nat → Nat) (w : World), (Instr.index 53 (.agg (K.tab b)) (.int .u8 1)).run Tryd.prog w = .ok (.agg #[K.fn 1 (b 1)]) w := fun _ _ => by kernel_rfl
  have hfld : ∀ (v : Value) (w : World), (Instr.field 51 (.agg #[v]) 0).run Tryd.prog w = .ok v w := fun _ _ => by kernel_rfl
  go_enter Tryd.func14, Tryd.ntmps14
  go_wp2_with (first | (go_at_call 25; refine (there_eq _ true _ hth.out).mono ?_; rintro e w' ⟨rfl, rfl⟩) | (go_at_call 29; refine (kind_eq _ _ _ h0 h1 Hk.out).mono ?_; rintro e w' ⟨rfl, rfl⟩))
  have hu := Tryd.underlying31
  have hinfo : (Tryd.prog.info? 31).map (·.size) = some (posL c).length := by rw [Tryd.infoPos]; simp [posL]
  generalize hW : w.alloc (.cells (posC c) 31) = W at *
  have hp : W.heap[w.heap.size]? = some (.cells (posC c) 31 (0, 0)) := by rw [← hW]; exact heap_alloc_new _ _
  have hlt := (Array.getElem?_eq_some_iff.1 hp).1
  have hTW : Tb W := by rw [← hW]; exact tb_below HT.out ((Below.refl _ _).alloc (Nat.le_refl _) _)
  have hbW : Below w.heap.size w W := by rw [← hW]; exact (Below.refl _ _).alloc (Nat.le_refl _) _
  have hS0 : W.rangeAt w.heap.size 0 (posL c) ∧ Below W.heap.size W W := ⟨pos_range hp, Below.refl _ _⟩
  have hSb : ∀ w' : World, Below W.heap.size W w' → w'.rangeAt w.heap.size 0 (posL c) ∧ Below W.heap.size W w' := fun w' hb => ⟨pos_range ((hb.block _ hlt).trans hp), hb⟩
  have HW := Lib.hid hW
  have HTW := Lib.hid hTW
  have HbW := Lib.hid hbW
  clear hW hTW hbW hcell hcl hp
  refine wp_region_held_drew (S := fun w' => w'.rangeAt w.heap.size 0 (posL c) ∧ Below W.heap.size W w') (by kernel_rfl) (hSb _ ((Below.refl _ _).drew)) ?_
  intro hSd
  refine wpAnyH_take (i := 1) (v := .int .u8 1) rfl (by kernel_rfl) (by kernel_rfl) (by kernel_rfl) (fun _ _ _ h => h) (.inl ⟨rfl, fun _ _ => rfl⟩) hSd ?_
  refine wpAnyH_take (i := 4) (v := .int .u8 (c (1 + s))) rfl (by kernel_rfl) (by kernel_rfl) (by kernel_rfl) (fun _ _ _ h => h) (.inl ⟨rfl, fun _ _ => rfl⟩) hSd ?_
  refine wpAnyH_take (i := 6) (v := .int .i64 (s : Int)) rfl (by kernel_rfl) (by kernel_rfl) (by kernel_rfl) (fun _ _ _ h => h) (.inl ⟨rfl, fun _ _ => rfl⟩) hSd ?_
  refine wpAnyH_take (i := 7) rfl (by kernel_rfl) (by kernel_rfl) (by kernel_rfl) (fun _ _ _ h => h) (yieldsIf_load_mid rfl _ _ rfl _ _ rfl _ _ (fun _ h => h.1) hu rfl hinfo) hSd ?_
  refine wpAnyH_all (rs := [0]) (by kernel_rfl) (by simp) (fun i hi => ?_)
  obtain rfl : i = 0 := by simpa using hi
  clear hi
  refine wpOp_at rfl rfl ?_
  try simp only [Act.put]
  unfold Oper.wp
  go_simp
  refine (ways_lit _).mono ?_; rintro e v1 ⟨b, rfl, hok, hb1⟩; have hk1 : Below W.heap.size W v1 := (Below.refl W.heap.size W).drew.trans hb1; refine ⟨hSb _ hk1, ?_⟩
  refine wpAnyH_take (i := 2) (v := .agg #[K.fn 1 (b 1)]) rfl (by kernel_rfl) (by kernel_rfl) (by kernel_rfl) (fun _ _ _ h => h) (.inl ⟨rfl, fun w _ => by simp [execOp, Act.eval, go_sem, hidx]⟩) (hSb _ hk1) ?_
  refine wpAnyH_take (i := 3) (v := K.fn 1 (b 1)) rfl (by kernel_rfl) (by kernel_rfl) (by kernel_rfl) (fun _ _ _ h => h) (.inl ⟨rfl, fun w _ => by simp [execOp, Act.eval, Act.put, go_sem, hfld]⟩) (hSb _ hk1) ?_
  refine wpAnyH_all (rs := [5]) (by kernel_rfl) (by simp) (fun i hi => ?_)
  obtain rfl : i = 5 := by simpa using hi
  clear hi
  refine wpOp_at rfl rfl ?_
  try simp only [Act.put]
  unfold Oper.wp
  go_simp
  refine (color_any _ _ h0 h1).mono ?_; rintro e v2 ⟨rfl, rfl⟩; refine ⟨hSb _ hk1, ?_⟩
  refine wpAnyH_all (rs := [8]) (by kernel_rfl) (by simp) (fun i hi => ?_)
  obtain rfl : i = 8 := by simpa using hi
  clear hi
  refine wpOp_at rfl rfl ?_
  try simp only [Act.put]
  unfold Oper.wp
  go_simp
  refine (all_any c _ Hc.out).mono ?_; rintro e v3 ⟨rfl, hb3⟩; have hk3 : Below W.heap.size W v3 := below_next hk1 hb3; refine ⟨hSb _ hk3, ?_⟩
  simp only [K.fn]
  refine wpAnyH_all (rs := [9]) (by kernel_rfl) (by simp) (fun i hi => ?_)
  obtain rfl : i = 9 := by simpa using hi
  clear hi
  refine wpOp_at rfl rfl ?_
  try simp only [Act.put]
  unfold Oper.wp
  go_simp
  refine (ways1_any _ _ _ _).mono ?_; rintro e v4 ⟨rfl, hb4⟩; have hk4 : Below W.heap.size W v4 := below_next hk3 hb4; refine ⟨hSb _ hk4, ?_⟩
  refine wpAnyH_all (rs := [10]) (by kernel_rfl) (by simp) (fun i hi => ?_)
  obtain rfl : i = 10 := by simpa using hi
  clear hi
  refine wpOp_at rfl rfl ?_
  unfold Oper.wp
  go_simp
  refine ⟨by kernel_rfl, ?_⟩
  have hW4 := below_next HbW.out hk4
  go_wp2
  go_ret
  exact ⟨rfl, hW4⟩

set_option maxRecDepth 100000 in
set_option maxHeartbeats 2000000 in
theorem from_knight (c : Nat → Int) (s : Nat) (w : World) (hc : BdOk c) (hT : Tb w) (hs : s < 64) (hk : P.kind (c (1 + s)) = 2) :
    Calls Tryd.prog 14 #[.agg (posC c), .int .i64 (s : Int)] w fun e w' => e = .returned (.int .u64 (U (R.knight s))) ∧ Below w.heap.size w w' := by
  have hth := Lib.hid (show K.there (s : Int) = true by unfold K.there; simp; omega)
  obtain ⟨h0, h1⟩ := hc s hs
  have Hc := Lib.hid hc
  have HT := Lib.hid hT
  have Hk := Lib.hid hk
  clear hT hc hk
  have hcell : ∀ w' : World, w'.heap[w.heap.size]? = some (.cells (posC c) 31 (0, 0)) → w'.cell? ⟨w.heap.size, 1 + s, none⟩ = some (.int .u8 (c (1 + s))) := fun w' hg => by simp only [World.cell?, hg]; exact posC_board c s hs
  have hcl := hcell _ (heap_alloc_new w (.cells (posC c) 31))
  have hidx : ∀ (b : Nat → Nat) (w : World), (Instr.index 53 (.agg (K.tab b)) (.int .u8 2)).run Tryd.prog w = .ok (.agg #[K.fn 2 (b 2)]) w := fun _ _ => by kernel_rfl
  have hfld : ∀ (v : Value) (w : World), (Instr.field 51 (.agg #[v]) 0).run Tryd.prog w = .ok v w := fun _ _ => by kernel_rfl
  go_enter Tryd.func14, Tryd.ntmps14
  go_wp2_with (first | (go_at_call 25; refine (there_eq _ true _ hth.out).mono ?_; rintro e w' ⟨rfl, rfl⟩) | (go_at_call 29; refine (kind_eq _ _ _ h0 h1 Hk.out).mono ?_; rintro e w' ⟨rfl, rfl⟩))
  have hu := Tryd.underlying31
  have hinfo : (Tryd.prog.info? 31).map (·.size) = some (posL c).length := by rw [Tryd.infoPos]; simp [posL]
  generalize hW : w.alloc (.cells (posC c) 31) = W at *
  have hp : W.heap[w.heap.size]? = some (.cells (posC c) 31 (0, 0)) := by rw [← hW]; exact heap_alloc_new _ _
  have hlt := (Array.getElem?_eq_some_iff.1 hp).1
  have hTW : Tb W := by rw [← hW]; exact tb_below HT.out ((Below.refl _ _).alloc (Nat.le_refl _) _)
  have hbW : Below w.heap.size w W := by rw [← hW]; exact (Below.refl _ _).alloc (Nat.le_refl _) _
  have hS0 : W.rangeAt w.heap.size 0 (posL c) ∧ Below W.heap.size W W := ⟨pos_range hp, Below.refl _ _⟩
  have hSb : ∀ w' : World, Below W.heap.size W w' → w'.rangeAt w.heap.size 0 (posL c) ∧ Below W.heap.size W w' := fun w' hb => ⟨pos_range ((hb.block _ hlt).trans hp), hb⟩
  have HW := Lib.hid hW
  have HTW := Lib.hid hTW
  have HbW := Lib.hid hbW
  clear hW hTW hbW hcell hcl hp
  refine wp_region_held_drew (S := fun w' => w'.rangeAt w.heap.size 0 (posL c) ∧ Below W.heap.size W w') (by kernel_rfl) (hSb _ ((Below.refl _ _).drew)) ?_
  intro hSd
  refine wpAnyH_take (i := 1) (v := .int .u8 2) rfl (by kernel_rfl) (by kernel_rfl) (by kernel_rfl) (fun _ _ _ h => h) (.inl ⟨rfl, fun _ _ => rfl⟩) hSd ?_
  refine wpAnyH_take (i := 4) (v := .int .u8 (c (1 + s))) rfl (by kernel_rfl) (by kernel_rfl) (by kernel_rfl) (fun _ _ _ h => h) (.inl ⟨rfl, fun _ _ => rfl⟩) hSd ?_
  refine wpAnyH_take (i := 6) (v := .int .i64 (s : Int)) rfl (by kernel_rfl) (by kernel_rfl) (by kernel_rfl) (fun _ _ _ h => h) (.inl ⟨rfl, fun _ _ => rfl⟩) hSd ?_
  refine wpAnyH_take (i := 7) rfl (by kernel_rfl) (by kernel_rfl) (by kernel_rfl) (fun _ _ _ h => h) (yieldsIf_load_mid rfl _ _ rfl _ _ rfl _ _ (fun _ h => h.1) hu rfl hinfo) hSd ?_
  refine wpAnyH_all (rs := [0]) (by kernel_rfl) (by simp) (fun i hi => ?_)
  obtain rfl : i = 0 := by simpa using hi
  clear hi
  refine wpOp_at rfl rfl ?_
  try simp only [Act.put]
  unfold Oper.wp
  go_simp
  refine (ways_lit _).mono ?_; rintro e v1 ⟨b, rfl, hok, hb1⟩; have hk1 : Below W.heap.size W v1 := (Below.refl W.heap.size W).drew.trans hb1; refine ⟨hSb _ hk1, ?_⟩
  refine wpAnyH_take (i := 2) (v := .agg #[K.fn 2 (b 2)]) rfl (by kernel_rfl) (by kernel_rfl) (by kernel_rfl) (fun _ _ _ h => h) (.inl ⟨rfl, fun w _ => by simp [execOp, Act.eval, go_sem, hidx]⟩) (hSb _ hk1) ?_
  refine wpAnyH_take (i := 3) (v := K.fn 2 (b 2)) rfl (by kernel_rfl) (by kernel_rfl) (by kernel_rfl) (fun _ _ _ h => h) (.inl ⟨rfl, fun w _ => by simp [execOp, Act.eval, Act.put, go_sem, hfld]⟩) (hSb _ hk1) ?_
  refine wpAnyH_all (rs := [5]) (by kernel_rfl) (by simp) (fun i hi => ?_)
  obtain rfl : i = 5 := by simpa using hi
  clear hi
  refine wpOp_at rfl rfl ?_
  try simp only [Act.put]
  unfold Oper.wp
  go_simp
  refine (color_any _ _ h0 h1).mono ?_; rintro e v2 ⟨rfl, rfl⟩; refine ⟨hSb _ hk1, ?_⟩
  refine wpAnyH_all (rs := [8]) (by kernel_rfl) (by simp) (fun i hi => ?_)
  obtain rfl : i = 8 := by simpa using hi
  clear hi
  refine wpOp_at rfl rfl ?_
  try simp only [Act.put]
  unfold Oper.wp
  go_simp
  refine (all_any c _ Hc.out).mono ?_; rintro e v3 ⟨rfl, hb3⟩; have hk3 : Below W.heap.size W v3 := below_next hk1 hb3; refine ⟨hSb _ hk3, ?_⟩
  have hkc := ((hok 2 (by decide) (by decide)).below hb3).resolve_left (fun e => absurd e (by decide))
  simp only [K.inner] at hkc
  simp only [K.fn, K.ptr]
  refine wpAnyH_all (rs := [9]) (by kernel_rfl) (by simp) (fun i hi => ?_)
  obtain rfl : i = 9 := by simpa using hi
  clear hi
  refine wpOp_at rfl rfl ?_
  try simp only [Act.put]
  unfold Oper.wp
  go_simp
  refine (step1_knight _ _ _ _ _ hkc).mono ?_; rintro e v4 ⟨rfl, hb4⟩; have hk4 : Below W.heap.size W v4 := below_next hk3 hb4; refine ⟨hSb _ hk4, ?_⟩
  refine wpAnyH_all (rs := [10]) (by kernel_rfl) (by simp) (fun i hi => ?_)
  obtain rfl : i = 10 := by simpa using hi
  clear hi
  refine wpOp_at rfl rfl ?_
  unfold Oper.wp
  go_simp
  refine ⟨by kernel_rfl, ?_⟩
  have hW4 := below_next HbW.out hk4
  go_wp2
  go_ret
  exact ⟨rfl, hW4⟩

set_option maxRecDepth 100000 in
set_option maxHeartbeats 2000000 in
theorem from_bishop (c : Nat → Int) (s : Nat) (w : World) (hc : BdOk c) (hT : Tb w) (hs : s < 64) (hk : P.kind (c (1 + s)) = 3) :
    Calls Tryd.prog 14 #[.agg (posC c), .int .i64 (s : Int)] w fun e w' => e = .returned (.int .u64 (U (L.bishop s (S.all c)))) ∧ Below w.heap.size w w' := by
  have hth := Lib.hid (show K.there (s : Int) = true by unfold K.there; simp; omega)
  obtain ⟨h0, h1⟩ := hc s hs
  have Hc := Lib.hid hc
  have HT := Lib.hid hT
  have Hk := Lib.hid hk
  clear hT hc hk
  have hcell : ∀ w' : World, w'.heap[w.heap.size]? = some (.cells (posC c) 31 (0, 0)) → w'.cell? ⟨w.heap.size, 1 + s, none⟩ = some (.int .u8 (c (1 + s))) := fun w' hg => by simp only [World.cell?, hg]; exact posC_board c s hs
  have hcl := hcell _ (heap_alloc_new w (.cells (posC c) 31))
  have hidx : ∀ (b : Nat → Nat) (w : World), (Instr.index 53 (.agg (K.tab b)) (.int .u8 3)).run Tryd.prog w = .ok (.agg #[K.fn 3 (b 3)]) w := fun _ _ => by kernel_rfl
  have hfld : ∀ (v : Value) (w : World), (Instr.field 51 (.agg #[v]) 0).run Tryd.prog w = .ok v w := fun _ _ => by kernel_rfl
  go_enter Tryd.func14, Tryd.ntmps14
  go_wp2_with (first | (go_at_call 25; refine (there_eq _ true _ hth.out).mono ?_; rintro e w' ⟨rfl, rfl⟩) | (go_at_call 29; refine (kind_eq _ _ _ h0 h1 Hk.out).mono ?_; rintro e w' ⟨rfl, rfl⟩))
  have hu := Tryd.underlying31
  have hinfo : (Tryd.prog.info? 31).map (·.size) = some (posL c).length := by rw [Tryd.infoPos]; simp [posL]
  generalize hW : w.alloc (.cells (posC c) 31) = W at *
  have hp : W.heap[w.heap.size]? = some (.cells (posC c) 31 (0, 0)) := by rw [← hW]; exact heap_alloc_new _ _
  have hlt := (Array.getElem?_eq_some_iff.1 hp).1
  have hTW : Tb W := by rw [← hW]; exact tb_below HT.out ((Below.refl _ _).alloc (Nat.le_refl _) _)
  have hbW : Below w.heap.size w W := by rw [← hW]; exact (Below.refl _ _).alloc (Nat.le_refl _) _
  have hS0 : W.rangeAt w.heap.size 0 (posL c) ∧ Below W.heap.size W W := ⟨pos_range hp, Below.refl _ _⟩
  have hSb : ∀ w' : World, Below W.heap.size W w' → w'.rangeAt w.heap.size 0 (posL c) ∧ Below W.heap.size W w' := fun w' hb => ⟨pos_range ((hb.block _ hlt).trans hp), hb⟩
  have HW := Lib.hid hW
  have HTW := Lib.hid hTW
  have HbW := Lib.hid hbW
  clear hW hTW hbW hcell hcl hp
  refine wp_region_held_drew (S := fun w' => w'.rangeAt w.heap.size 0 (posL c) ∧ Below W.heap.size W w') (by kernel_rfl) (hSb _ ((Below.refl _ _).drew)) ?_
  intro hSd
  refine wpAnyH_take (i := 1) (v := .int .u8 3) rfl (by kernel_rfl) (by kernel_rfl) (by kernel_rfl) (fun _ _ _ h => h) (.inl ⟨rfl, fun _ _ => rfl⟩) hSd ?_
  refine wpAnyH_take (i := 4) (v := .int .u8 (c (1 + s))) rfl (by kernel_rfl) (by kernel_rfl) (by kernel_rfl) (fun _ _ _ h => h) (.inl ⟨rfl, fun _ _ => rfl⟩) hSd ?_
  refine wpAnyH_take (i := 6) (v := .int .i64 (s : Int)) rfl (by kernel_rfl) (by kernel_rfl) (by kernel_rfl) (fun _ _ _ h => h) (.inl ⟨rfl, fun _ _ => rfl⟩) hSd ?_
  refine wpAnyH_take (i := 7) rfl (by kernel_rfl) (by kernel_rfl) (by kernel_rfl) (fun _ _ _ h => h) (yieldsIf_load_mid rfl _ _ rfl _ _ rfl _ _ (fun _ h => h.1) hu rfl hinfo) hSd ?_
  refine wpAnyH_all (rs := [0]) (by kernel_rfl) (by simp) (fun i hi => ?_)
  obtain rfl : i = 0 := by simpa using hi
  clear hi
  refine wpOp_at rfl rfl ?_
  try simp only [Act.put]
  unfold Oper.wp
  go_simp
  refine (ways_lit _).mono ?_; rintro e v1 ⟨b, rfl, hok, hb1⟩; have hk1 : Below W.heap.size W v1 := (Below.refl W.heap.size W).drew.trans hb1; refine ⟨hSb _ hk1, ?_⟩
  refine wpAnyH_take (i := 2) (v := .agg #[K.fn 3 (b 3)]) rfl (by kernel_rfl) (by kernel_rfl) (by kernel_rfl) (fun _ _ _ h => h) (.inl ⟨rfl, fun w _ => by simp [execOp, Act.eval, go_sem, hidx]⟩) (hSb _ hk1) ?_
  refine wpAnyH_take (i := 3) (v := K.fn 3 (b 3)) rfl (by kernel_rfl) (by kernel_rfl) (by kernel_rfl) (fun _ _ _ h => h) (.inl ⟨rfl, fun w _ => by simp [execOp, Act.eval, Act.put, go_sem, hfld]⟩) (hSb _ hk1) ?_
  refine wpAnyH_all (rs := [5]) (by kernel_rfl) (by simp) (fun i hi => ?_)
  obtain rfl : i = 5 := by simpa using hi
  clear hi
  refine wpOp_at rfl rfl ?_
  try simp only [Act.put]
  unfold Oper.wp
  go_simp
  refine (color_any _ _ h0 h1).mono ?_; rintro e v2 ⟨rfl, rfl⟩; refine ⟨hSb _ hk1, ?_⟩
  refine wpAnyH_all (rs := [8]) (by kernel_rfl) (by simp) (fun i hi => ?_)
  obtain rfl : i = 8 := by simpa using hi
  clear hi
  refine wpOp_at rfl rfl ?_
  try simp only [Act.put]
  unfold Oper.wp
  go_simp
  refine (all_any c _ Hc.out).mono ?_; rintro e v3 ⟨rfl, hb3⟩; have hk3 : Below W.heap.size W v3 := below_next hk1 hb3; refine ⟨hSb _ hk3, ?_⟩
  have hkc := ((hok 3 (by decide) (by decide)).below hb3).resolve_left (fun e => absurd e (by decide))
  simp only [K.inner] at hkc
  simp only [K.fn, K.ptr]
  refine wpAnyH_all (rs := [9]) (by kernel_rfl) (by simp) (fun i hi => ?_)
  obtain rfl : i = 9 := by simpa using hi
  clear hi
  refine wpOp_at rfl rfl ?_
  try simp only [Act.put]
  unfold Oper.wp
  go_simp
  refine (slide1_bishop _ _ _ _ _ (tb_below HTW.out hk3) hkc).mono ?_; rintro e v4 ⟨rfl, hb4⟩; have hk4 : Below W.heap.size W v4 := below_next hk3 hb4; refine ⟨hSb _ hk4, ?_⟩
  refine wpAnyH_all (rs := [10]) (by kernel_rfl) (by simp) (fun i hi => ?_)
  obtain rfl : i = 10 := by simpa using hi
  clear hi
  refine wpOp_at rfl rfl ?_
  unfold Oper.wp
  go_simp
  refine ⟨by kernel_rfl, ?_⟩
  have hW4 := below_next HbW.out hk4
  go_wp2
  go_ret
  exact ⟨rfl, hW4⟩

set_option maxRecDepth 100000 in
set_option maxHeartbeats 2000000 in
theorem from_rook (c : Nat → Int) (s : Nat) (w : World) (hc : BdOk c) (hT : Tb w) (hs : s < 64) (hk : P.kind (c (1 + s)) = 4) :
    Calls Tryd.prog 14 #[.agg (posC c), .int .i64 (s : Int)] w fun e w' => e = .returned (.int .u64 (U (L.rook s (S.all c)))) ∧ Below w.heap.size w w' := by
  have hth := Lib.hid (show K.there (s : Int) = true by unfold K.there; simp; omega)
  obtain ⟨h0, h1⟩ := hc s hs
  have Hc := Lib.hid hc
  have HT := Lib.hid hT
  have Hk := Lib.hid hk
  clear hT hc hk
  have hcell : ∀ w' : World, w'.heap[w.heap.size]? = some (.cells (posC c) 31 (0, 0)) → w'.cell? ⟨w.heap.size, 1 + s, none⟩ = some (.int .u8 (c (1 + s))) := fun w' hg => by simp only [World.cell?, hg]; exact posC_board c s hs
  have hcl := hcell _ (heap_alloc_new w (.cells (posC c) 31))
  have hidx : ∀ (b : Nat → Nat) (w : World), (Instr.index 53 (.agg (K.tab b)) (.int .u8 4)).run Tryd.prog w = .ok (.agg #[K.fn 4 (b 4)]) w := fun _ _ => by kernel_rfl
  have hfld : ∀ (v : Value) (w : World), (Instr.field 51 (.agg #[v]) 0).run Tryd.prog w = .ok v w := fun _ _ => by kernel_rfl
  go_enter Tryd.func14, Tryd.ntmps14
  go_wp2_with (first | (go_at_call 25; refine (there_eq _ true _ hth.out).mono ?_; rintro e w' ⟨rfl, rfl⟩) | (go_at_call 29; refine (kind_eq _ _ _ h0 h1 Hk.out).mono ?_; rintro e w' ⟨rfl, rfl⟩))
  have hu := Tryd.underlying31
  have hinfo : (Tryd.prog.info? 31).map (·.size) = some (posL c).length := by rw [Tryd.infoPos]; simp [posL]
  generalize hW : w.alloc (.cells (posC c) 31) = W at *
  have hp : W.heap[w.heap.size]? = some (.cells (posC c) 31 (0, 0)) := by rw [← hW]; exact heap_alloc_new _ _
  have hlt := (Array.getElem?_eq_some_iff.1 hp).1
  have hTW : Tb W := by rw [← hW]; exact tb_below HT.out ((Below.refl _ _).alloc (Nat.le_refl _) _)
  have hbW : Below w.heap.size w W := by rw [← hW]; exact (Below.refl _ _).alloc (Nat.le_refl _) _
  have hS0 : W.rangeAt w.heap.size 0 (posL c) ∧ Below W.heap.size W W := ⟨pos_range hp, Below.refl _ _⟩
  have hSb : ∀ w' : World, Below W.heap.size W w' → w'.rangeAt w.heap.size 0 (posL c) ∧ Below W.heap.size W w' := fun w' hb => ⟨pos_range ((hb.block _ hlt).trans hp), hb⟩
  have HW := Lib.hid hW
  have HTW := Lib.hid hTW
  have HbW := Lib.hid hbW
  clear hW hTW hbW hcell hcl hp
  refine wp_region_held_drew (S := fun w' => w'.rangeAt w.heap.size 0 (posL c) ∧ Below W.heap.size W w') (by kernel_rfl) (hSb _ ((Below.refl _ _).drew)) ?_
  intro hSd
  refine wpAnyH_take (i := 1) (v := .int .u8 4) rfl (by kernel_rfl) (by kernel_rfl) (by kernel_rfl) (fun _ _ _ h => h) (.inl ⟨rfl, fun _ _ => rfl⟩) hSd ?_
  refine wpAnyH_take (i := 4) (v := .int .u8 (c (1 + s))) rfl (by kernel_rfl) (by kernel_rfl) (by kernel_rfl) (fun _ _ _ h => h) (.inl ⟨rfl, fun _ _ => rfl⟩) hSd ?_
  refine wpAnyH_take (i := 6) (v := .int .i64 (s : Int)) rfl (by kernel_rfl) (by kernel_rfl) (by kernel_rfl) (fun _ _ _ h => h) (.inl ⟨rfl, fun _ _ => rfl⟩) hSd ?_
  refine wpAnyH_take (i := 7) rfl (by kernel_rfl) (by kernel_rfl) (by kernel_rfl) (fun _ _ _ h => h) (yieldsIf_load_mid rfl _ _ rfl _ _ rfl _ _ (fun _ h => h.1) hu rfl hinfo) hSd ?_
  refine wpAnyH_all (rs := [0]) (by kernel_rfl) (by simp) (fun i hi => ?_)
  obtain rfl : i = 0 := by simpa using hi
  clear hi
  refine wpOp_at rfl rfl ?_
  try simp only [Act.put]
  unfold Oper.wp
  go_simp
  refine (ways_lit _).mono ?_; rintro e v1 ⟨b, rfl, hok, hb1⟩; have hk1 : Below W.heap.size W v1 := (Below.refl W.heap.size W).drew.trans hb1; refine ⟨hSb _ hk1, ?_⟩
  refine wpAnyH_take (i := 2) (v := .agg #[K.fn 4 (b 4)]) rfl (by kernel_rfl) (by kernel_rfl) (by kernel_rfl) (fun _ _ _ h => h) (.inl ⟨rfl, fun w _ => by simp [execOp, Act.eval, go_sem, hidx]⟩) (hSb _ hk1) ?_
  refine wpAnyH_take (i := 3) (v := K.fn 4 (b 4)) rfl (by kernel_rfl) (by kernel_rfl) (by kernel_rfl) (fun _ _ _ h => h) (.inl ⟨rfl, fun w _ => by simp [execOp, Act.eval, Act.put, go_sem, hfld]⟩) (hSb _ hk1) ?_
  refine wpAnyH_all (rs := [5]) (by kernel_rfl) (by simp) (fun i hi => ?_)
  obtain rfl : i = 5 := by simpa using hi
  clear hi
  refine wpOp_at rfl rfl ?_
  try simp only [Act.put]
  unfold Oper.wp
  go_simp
  refine (color_any _ _ h0 h1).mono ?_; rintro e v2 ⟨rfl, rfl⟩; refine ⟨hSb _ hk1, ?_⟩
  refine wpAnyH_all (rs := [8]) (by kernel_rfl) (by simp) (fun i hi => ?_)
  obtain rfl : i = 8 := by simpa using hi
  clear hi
  refine wpOp_at rfl rfl ?_
  try simp only [Act.put]
  unfold Oper.wp
  go_simp
  refine (all_any c _ Hc.out).mono ?_; rintro e v3 ⟨rfl, hb3⟩; have hk3 : Below W.heap.size W v3 := below_next hk1 hb3; refine ⟨hSb _ hk3, ?_⟩
  have hkc := ((hok 4 (by decide) (by decide)).below hb3).resolve_left (fun e => absurd e (by decide))
  simp only [K.inner] at hkc
  simp only [K.fn, K.ptr]
  refine wpAnyH_all (rs := [9]) (by kernel_rfl) (by simp) (fun i hi => ?_)
  obtain rfl : i = 9 := by simpa using hi
  clear hi
  refine wpOp_at rfl rfl ?_
  try simp only [Act.put]
  unfold Oper.wp
  go_simp
  refine (slide1_rook _ _ _ _ _ (tb_below HTW.out hk3) hkc).mono ?_; rintro e v4 ⟨rfl, hb4⟩; have hk4 : Below W.heap.size W v4 := below_next hk3 hb4; refine ⟨hSb _ hk4, ?_⟩
  refine wpAnyH_all (rs := [10]) (by kernel_rfl) (by simp) (fun i hi => ?_)
  obtain rfl : i = 10 := by simpa using hi
  clear hi
  refine wpOp_at rfl rfl ?_
  unfold Oper.wp
  go_simp
  refine ⟨by kernel_rfl, ?_⟩
  have hW4 := below_next HbW.out hk4
  go_wp2
  go_ret
  exact ⟨rfl, hW4⟩

set_option maxRecDepth 100000 in
set_option maxHeartbeats 2000000 in
theorem from_queen (c : Nat → Int) (s : Nat) (w : World) (hc : BdOk c) (hT : Tb w) (hs : s < 64) (hk : P.kind (c (1 + s)) = 5) :
    Calls Tryd.prog 14 #[.agg (posC c), .int .i64 (s : Int)] w fun e w' => e = .returned (.int .u64 (U (L.queen s (S.all c)))) ∧ Below w.heap.size w w' := by
  have hth := Lib.hid (show K.there (s : Int) = true by unfold K.there; simp; omega)
  obtain ⟨h0, h1⟩ := hc s hs
  have Hc := Lib.hid hc
  have HT := Lib.hid hT
  have Hk := Lib.hid hk
  clear hT hc hk
  have hcell : ∀ w' : World, w'.heap[w.heap.size]? = some (.cells (posC c) 31 (0, 0)) → w'.cell? ⟨w.heap.size, 1 + s, none⟩ = some (.int .u8 (c (1 + s))) := fun w' hg => by simp only [World.cell?, hg]; exact posC_board c s hs
  have hcl := hcell _ (heap_alloc_new w (.cells (posC c) 31))
  have hidx : ∀ (b : Nat → Nat) (w : World), (Instr.index 53 (.agg (K.tab b)) (.int .u8 5)).run Tryd.prog w = .ok (.agg #[K.fn 5 (b 5)]) w := fun _ _ => by kernel_rfl
  have hfld : ∀ (v : Value) (w : World), (Instr.field 51 (.agg #[v]) 0).run Tryd.prog w = .ok v w := fun _ _ => by kernel_rfl
  go_enter Tryd.func14, Tryd.ntmps14
  go_wp2_with (first | (go_at_call 25; refine (there_eq _ true _ hth.out).mono ?_; rintro e w' ⟨rfl, rfl⟩) | (go_at_call 29; refine (kind_eq _ _ _ h0 h1 Hk.out).mono ?_; rintro e w' ⟨rfl, rfl⟩))
  have hu := Tryd.underlying31
  have hinfo : (Tryd.prog.info? 31).map (·.size) = some (posL c).length := by rw [Tryd.infoPos]; simp [posL]
  generalize hW : w.alloc (.cells (posC c) 31) = W at *
  have hp : W.heap[w.heap.size]? = some (.cells (posC c) 31 (0, 0)) := by rw [← hW]; exact heap_alloc_new _ _
  have hlt := (Array.getElem?_eq_some_iff.1 hp).1
  have hTW : Tb W := by rw [← hW]; exact tb_below HT.out ((Below.refl _ _).alloc (Nat.le_refl _) _)
  have hbW : Below w.heap.size w W := by rw [← hW]; exact (Below.refl _ _).alloc (Nat.le_refl _) _
  have hS0 : W.rangeAt w.heap.size 0 (posL c) ∧ Below W.heap.size W W := ⟨pos_range hp, Below.refl _ _⟩
  have hSb : ∀ w' : World, Below W.heap.size W w' → w'.rangeAt w.heap.size 0 (posL c) ∧ Below W.heap.size W w' := fun w' hb => ⟨pos_range ((hb.block _ hlt).trans hp), hb⟩
  have HW := Lib.hid hW
  have HTW := Lib.hid hTW
  have HbW := Lib.hid hbW
  clear hW hTW hbW hcell hcl hp
  refine wp_region_held_drew (S := fun w' => w'.rangeAt w.heap.size 0 (posL c) ∧ Below W.heap.size W w') (by kernel_rfl) (hSb _ ((Below.refl _ _).drew)) ?_
  intro hSd
  refine wpAnyH_take (i := 1) (v := .int .u8 5) rfl (by kernel_rfl) (by kernel_rfl) (by kernel_rfl) (fun _ _ _ h => h) (.inl ⟨rfl, fun _ _ => rfl⟩) hSd ?_
  refine wpAnyH_take (i := 4) (v := .int .u8 (c (1 + s))) rfl (by kernel_rfl) (by kernel_rfl) (by kernel_rfl) (fun _ _ _ h => h) (.inl ⟨rfl, fun _ _ => rfl⟩) hSd ?_
  refine wpAnyH_take (i := 6) (v := .int .i64 (s : Int)) rfl (by kernel_rfl) (by kernel_rfl) (by kernel_rfl) (fun _ _ _ h => h) (.inl ⟨rfl, fun _ _ => rfl⟩) hSd ?_
  refine wpAnyH_take (i := 7) rfl (by kernel_rfl) (by kernel_rfl) (by kernel_rfl) (fun _ _ _ h => h) (yieldsIf_load_mid rfl _ _ rfl _ _ rfl _ _ (fun _ h => h.1) hu rfl hinfo) hSd ?_
  refine wpAnyH_all (rs := [0]) (by kernel_rfl) (by simp) (fun i hi => ?_)
  obtain rfl : i = 0 := by simpa using hi
  clear hi
  refine wpOp_at rfl rfl ?_
  try simp only [Act.put]
  unfold Oper.wp
  go_simp
  refine (ways_lit _).mono ?_; rintro e v1 ⟨b, rfl, hok, hb1⟩; have hk1 : Below W.heap.size W v1 := (Below.refl W.heap.size W).drew.trans hb1; refine ⟨hSb _ hk1, ?_⟩
  refine wpAnyH_take (i := 2) (v := .agg #[K.fn 5 (b 5)]) rfl (by kernel_rfl) (by kernel_rfl) (by kernel_rfl) (fun _ _ _ h => h) (.inl ⟨rfl, fun w _ => by simp [execOp, Act.eval, go_sem, hidx]⟩) (hSb _ hk1) ?_
  refine wpAnyH_take (i := 3) (v := K.fn 5 (b 5)) rfl (by kernel_rfl) (by kernel_rfl) (by kernel_rfl) (fun _ _ _ h => h) (.inl ⟨rfl, fun w _ => by simp [execOp, Act.eval, Act.put, go_sem, hfld]⟩) (hSb _ hk1) ?_
  refine wpAnyH_all (rs := [5]) (by kernel_rfl) (by simp) (fun i hi => ?_)
  obtain rfl : i = 5 := by simpa using hi
  clear hi
  refine wpOp_at rfl rfl ?_
  try simp only [Act.put]
  unfold Oper.wp
  go_simp
  refine (color_any _ _ h0 h1).mono ?_; rintro e v2 ⟨rfl, rfl⟩; refine ⟨hSb _ hk1, ?_⟩
  refine wpAnyH_all (rs := [8]) (by kernel_rfl) (by simp) (fun i hi => ?_)
  obtain rfl : i = 8 := by simpa using hi
  clear hi
  refine wpOp_at rfl rfl ?_
  try simp only [Act.put]
  unfold Oper.wp
  go_simp
  refine (all_any c _ Hc.out).mono ?_; rintro e v3 ⟨rfl, hb3⟩; have hk3 : Below W.heap.size W v3 := below_next hk1 hb3; refine ⟨hSb _ hk3, ?_⟩
  have hkc := ((hok 5 (by decide) (by decide)).below hb3).resolve_left (fun e => absurd e (by decide))
  simp only [K.inner] at hkc
  simp only [K.fn, K.ptr]
  refine wpAnyH_all (rs := [9]) (by kernel_rfl) (by simp) (fun i hi => ?_)
  obtain rfl : i = 9 := by simpa using hi
  clear hi
  refine wpOp_at rfl rfl ?_
  try simp only [Act.put]
  unfold Oper.wp
  go_simp
  refine (slide1_queen _ _ _ _ _ (tb_below HTW.out hk3) hkc).mono ?_; rintro e v4 ⟨rfl, hb4⟩; have hk4 : Below W.heap.size W v4 := below_next hk3 hb4; refine ⟨hSb _ hk4, ?_⟩
  refine wpAnyH_all (rs := [10]) (by kernel_rfl) (by simp) (fun i hi => ?_)
  obtain rfl : i = 10 := by simpa using hi
  clear hi
  refine wpOp_at rfl rfl ?_
  unfold Oper.wp
  go_simp
  refine ⟨by kernel_rfl, ?_⟩
  have hW4 := below_next HbW.out hk4
  go_wp2
  go_ret
  exact ⟨rfl, hW4⟩

set_option maxRecDepth 100000 in
set_option maxHeartbeats 2000000 in
theorem from_king (c : Nat → Int) (s : Nat) (w : World) (hc : BdOk c) (hT : Tb w) (hs : s < 64) (hk : P.kind (c (1 + s)) = 6) :
    Calls Tryd.prog 14 #[.agg (posC c), .int .i64 (s : Int)] w fun e w' => e = .returned (.int .u64 (U (R.king s))) ∧ Below w.heap.size w w' := by
  have hth := Lib.hid (show K.there (s : Int) = true by unfold K.there; simp; omega)
  obtain ⟨h0, h1⟩ := hc s hs
  have Hc := Lib.hid hc
  have HT := Lib.hid hT
  have Hk := Lib.hid hk
  clear hT hc hk
  have hcell : ∀ w' : World, w'.heap[w.heap.size]? = some (.cells (posC c) 31 (0, 0)) → w'.cell? ⟨w.heap.size, 1 + s, none⟩ = some (.int .u8 (c (1 + s))) := fun w' hg => by simp only [World.cell?, hg]; exact posC_board c s hs
  have hcl := hcell _ (heap_alloc_new w (.cells (posC c) 31))
  have hidx : ∀ (b : Nat → Nat) (w : World), (Instr.index 53 (.agg (K.tab b)) (.int .u8 6)).run Tryd.prog w = .ok (.agg #[K.fn 6 (b 6)]) w := fun _ _ => by kernel_rfl
  have hfld : ∀ (v : Value) (w : World), (Instr.field 51 (.agg #[v]) 0).run Tryd.prog w = .ok v w := fun _ _ => by kernel_rfl
  go_enter Tryd.func14, Tryd.ntmps14
  go_wp2_with (first | (go_at_call 25; refine (there_eq _ true _ hth.out).mono ?_; rintro e w' ⟨rfl, rfl⟩) | (go_at_call 29; refine (kind_eq _ _ _ h0 h1 Hk.out).mono ?_; rintro e w' ⟨rfl, rfl⟩))
  have hu := Tryd.underlying31
  have hinfo : (Tryd.prog.info? 31).map (·.size) = some (posL c).length := by rw [Tryd.infoPos]; simp [posL]
  generalize hW : w.alloc (.cells (posC c) 31) = W at *
  have hp : W.heap[w.heap.size]? = some (.cells (posC c) 31 (0, 0)) := by rw [← hW]; exact heap_alloc_new _ _
  have hlt := (Array.getElem?_eq_some_iff.1 hp).1
  have hTW : Tb W := by rw [← hW]; exact tb_below HT.out ((Below.refl _ _).alloc (Nat.le_refl _) _)
  have hbW : Below w.heap.size w W := by rw [← hW]; exact (Below.refl _ _).alloc (Nat.le_refl _) _
  have hS0 : W.rangeAt w.heap.size 0 (posL c) ∧ Below W.heap.size W W := ⟨pos_range hp, Below.refl _ _⟩
  have hSb : ∀ w' : World, Below W.heap.size W w' → w'.rangeAt w.heap.size 0 (posL c) ∧ Below W.heap.size W w' := fun w' hb => ⟨pos_range ((hb.block _ hlt).trans hp), hb⟩
  have HW := Lib.hid hW
  have HTW := Lib.hid hTW
  have HbW := Lib.hid hbW
  clear hW hTW hbW hcell hcl hp
  refine wp_region_held_drew (S := fun w' => w'.rangeAt w.heap.size 0 (posL c) ∧ Below W.heap.size W w') (by kernel_rfl) (hSb _ ((Below.refl _ _).drew)) ?_
  intro hSd
  refine wpAnyH_take (i := 1) (v := .int .u8 6) rfl (by kernel_rfl) (by kernel_rfl) (by kernel_rfl) (fun _ _ _ h => h) (.inl ⟨rfl, fun _ _ => rfl⟩) hSd ?_
  refine wpAnyH_take (i := 4) (v := .int .u8 (c (1 + s))) rfl (by kernel_rfl) (by kernel_rfl) (by kernel_rfl) (fun _ _ _ h => h) (.inl ⟨rfl, fun _ _ => rfl⟩) hSd ?_
  refine wpAnyH_take (i := 6) (v := .int .i64 (s : Int)) rfl (by kernel_rfl) (by kernel_rfl) (by kernel_rfl) (fun _ _ _ h => h) (.inl ⟨rfl, fun _ _ => rfl⟩) hSd ?_
  refine wpAnyH_take (i := 7) rfl (by kernel_rfl) (by kernel_rfl) (by kernel_rfl) (fun _ _ _ h => h) (yieldsIf_load_mid rfl _ _ rfl _ _ rfl _ _ (fun _ h => h.1) hu rfl hinfo) hSd ?_
  refine wpAnyH_all (rs := [0]) (by kernel_rfl) (by simp) (fun i hi => ?_)
  obtain rfl : i = 0 := by simpa using hi
  clear hi
  refine wpOp_at rfl rfl ?_
  try simp only [Act.put]
  unfold Oper.wp
  go_simp
  refine (ways_lit _).mono ?_; rintro e v1 ⟨b, rfl, hok, hb1⟩; have hk1 : Below W.heap.size W v1 := (Below.refl W.heap.size W).drew.trans hb1; refine ⟨hSb _ hk1, ?_⟩
  refine wpAnyH_take (i := 2) (v := .agg #[K.fn 6 (b 6)]) rfl (by kernel_rfl) (by kernel_rfl) (by kernel_rfl) (fun _ _ _ h => h) (.inl ⟨rfl, fun w _ => by simp [execOp, Act.eval, go_sem, hidx]⟩) (hSb _ hk1) ?_
  refine wpAnyH_take (i := 3) (v := K.fn 6 (b 6)) rfl (by kernel_rfl) (by kernel_rfl) (by kernel_rfl) (fun _ _ _ h => h) (.inl ⟨rfl, fun w _ => by simp [execOp, Act.eval, Act.put, go_sem, hfld]⟩) (hSb _ hk1) ?_
  refine wpAnyH_all (rs := [5]) (by kernel_rfl) (by simp) (fun i hi => ?_)
  obtain rfl : i = 5 := by simpa using hi
  clear hi
  refine wpOp_at rfl rfl ?_
  try simp only [Act.put]
  unfold Oper.wp
  go_simp
  refine (color_any _ _ h0 h1).mono ?_; rintro e v2 ⟨rfl, rfl⟩; refine ⟨hSb _ hk1, ?_⟩
  refine wpAnyH_all (rs := [8]) (by kernel_rfl) (by simp) (fun i hi => ?_)
  obtain rfl : i = 8 := by simpa using hi
  clear hi
  refine wpOp_at rfl rfl ?_
  try simp only [Act.put]
  unfold Oper.wp
  go_simp
  refine (all_any c _ Hc.out).mono ?_; rintro e v3 ⟨rfl, hb3⟩; have hk3 : Below W.heap.size W v3 := below_next hk1 hb3; refine ⟨hSb _ hk3, ?_⟩
  have hkc := ((hok 6 (by decide) (by decide)).below hb3).resolve_left (fun e => absurd e (by decide))
  simp only [K.inner] at hkc
  simp only [K.fn, K.ptr]
  refine wpAnyH_all (rs := [9]) (by kernel_rfl) (by simp) (fun i hi => ?_)
  obtain rfl : i = 9 := by simpa using hi
  clear hi
  refine wpOp_at rfl rfl ?_
  try simp only [Act.put]
  unfold Oper.wp
  go_simp
  refine (step1_king _ _ _ _ _ hkc).mono ?_; rintro e v4 ⟨rfl, hb4⟩; have hk4 : Below W.heap.size W v4 := below_next hk3 hb4; refine ⟨hSb _ hk4, ?_⟩
  refine wpAnyH_all (rs := [10]) (by kernel_rfl) (by simp) (fun i hi => ?_)
  obtain rfl : i = 10 := by simpa using hi
  clear hi
  refine wpOp_at rfl rfl ?_
  unfold Oper.wp
  go_simp
  refine ⟨by kernel_rfl, ?_⟩
  have hW4 := below_next HbW.out hk4
  go_wp2
  go_ret
  exact ⟨rfl, hW4⟩

end Go.Proofs.YtdfgpbighadplaaDoor
