/- Castling in chess, in plain Lean: by which moves. -/
import Derived.Test.YtnkkhdcjbjiimaaDoorChessP
namespace Go.Proofs.YtnkkhdcjbjiimaaDoor
open Go.RowKit Go.Sort

namespace T
section
variable (b : Nat → Int)
/-- Nothing on a square. -/
def chE (s : Nat) : Bool := chV b s == 0
/-- A square that Black does not attack. -/
def chS (s : Nat) : Bool := !K.on (chC b 64) (s : Int) 1
def chA : Bool := chS b 4 && (chE b 1 && (chE b 2 && (chE b 3 && (chS b 2 && chS b 3))))
def chH : Bool := chS b 4 && (chE b 5 && (chE b 6 && (chS b 5 && chS b 6)))
theorem ch_empty (k s x : Nat) (hx : x < 64) : emptyB (chC b 64) k s x = (decide (x = k) || (decide (x = s) || chE b x)) := by
  unfold emptyB chE
  rw [bit_all _ x hx]
  by_cases h1 : x = s
  · subst h1
    have : bare (chC b 64) k x (1 + x) = 0 := by unfold bare; rw [upd_same]
    rw [this]; simp [P.isB]
  · by_cases h2 : x = k
    · subst h2
      have : bare (chC b 64) x s (1 + x) = 0 := by unfold bare; rw [upd_other _ _ _ _ (by omega), upd_same]
      rw [this]; simp [P.isB]
    · rw [bare_other _ _ _ _ (by omega) (by omega), chF b x hx, chV_isB b x hx]
      simp [h1, h2]
theorem ch_safe (k s x : Nat) (hk : k < 8) (hs : s < 8) (hx : x < 8) : safeB (chC b 64) 0 k s x = chS b x := by
  unfold safeB chS
  have h0 : (chC b 64) 0 = 0 := by rw [chO b 0 (by omega)]; rfl
  have hb := bare_bd (chC b 64) k s (ch_bd b)
  have hon : K.on (bare (chC b 64) k s) (x : Int) 1 = K.on (chC b 64) (x : Int) 1 := by
    unfold K.on
    rw [by_up _ (chC b 64) x hb (ch_bd b) hx (fun j hj _ => bare_other _ _ _ _ (by omega) (by omega)) (fun j hj => ?_) (fun j hj => by rw [chF b j (by omega)]; exact chV_low b j hj)]
    by_cases h1 : j = s
    · subst h1
      have : bare (chC b 64) k j (1 + j) = 0 := by unfold bare; rw [upd_same]
      omega
    · by_cases h2 : j = k
      · subst h2
        have : bare (chC b 64) j s (1 + j) = 0 := by unfold bare; rw [upd_other _ _ _ _ (by omega), upd_same]
        omega
      · rw [bare_other _ _ _ _ (by omega) (by omega), chF b j (by omega)]; exact chV_low b j hj
  rw [h0, show (1 : Int) - ((0 : Nat) : Int) = 1 from rfl, hon]
  simp
theorem seg_a1 : (seg 4 2).map (·.val) = [2, 3, 4] := by decide
theorem seg_a2 : (seg 0 3).map (·.val) = [0, 1, 2, 3] := by decide
theorem seg_h1 : (seg 4 6).map (·.val) = [4, 5, 6] := by decide
theorem seg_h2 : (seg 7 5).map (·.val) = [5, 6, 7] := by decide
theorem all_val (l : List (Fin 64)) (f : Nat → Bool) : (l.all fun x => f x.val) = (l.map (·.val)).all f := by rw [List.all_map]; rfl
theorem ch_mayA : mayOk (chC b 64) 0 1 4 0 = chA b := by
  unfold mayOk chA
  rw [show kg 0 1 = 2 from rfl, show rg 0 1 = 3 from rfl, all_val _ (emptyB (chC b 64) 4 0), all_val _ (emptyB (chC b 64) 4 0), all_val _ (safeB (chC b 64) 0 4 0), seg_a1, seg_a2]
  simp only [List.all_cons, List.all_nil]
  rw [ch_empty b 4 0 2 (by omega), ch_empty b 4 0 3 (by omega), ch_empty b 4 0 4 (by omega), ch_empty b 4 0 0 (by omega), ch_empty b 4 0 1 (by omega), ch_safe b 4 0 2 (by omega) (by omega) (by omega), ch_safe b 4 0 3 (by omega) (by omega) (by omega), ch_safe b 4 0 4 (by omega) (by omega) (by omega)]
  cases chE b 1 <;> cases chE b 2 <;> cases chE b 3 <;> cases chS b 2 <;> cases chS b 3 <;> cases chS b 4 <;> rfl
theorem ch_mayH : mayOk (chC b 64) 0 0 4 7 = chH b := by
  unfold mayOk chH
  rw [show kg 0 0 = 6 from rfl, show rg 0 0 = 5 from rfl, all_val _ (emptyB (chC b 64) 4 7), all_val _ (emptyB (chC b 64) 4 7), all_val _ (safeB (chC b 64) 0 4 7), seg_h1, seg_h2]
  simp only [List.all_cons, List.all_nil]
  rw [ch_empty b 4 7 4 (by omega), ch_empty b 4 7 5 (by omega), ch_empty b 4 7 6 (by omega), ch_empty b 4 7 7 (by omega), ch_safe b 4 7 4 (by omega) (by omega) (by omega), ch_safe b 4 7 5 (by omega) (by omega) (by omega), ch_safe b 4 7 6 (by omega) (by omega) (by omega)]
  cases chE b 5 <;> cases chE b 6 <;> cases chS b 4 <;> cases chS b 5 <;> cases chS b 6 <;> rfl
theorem ch_find : S.find (chC b 64) 0 6 = 4 := by
  rw [find_eq _ 0 (ch_bd b)]
  have hi : ∀ j, j < 64 → D.is (chC b 64) j 0 6 = decide (j = 4) := fun j hj => by
    rw [is_val (ch_bd b) j hj 0 6 (by omega) (by omega), chF b j hj, Bool.eq_iff_iff, beq_iff_eq, decide_eq_true_eq]
    exact chV_king b j hj
  rcases dfirst_spec (fun s => D.is (chC b 64) s 0 6) 64 0 with ⟨_, h⟩ | ⟨j, _, hj, e, hp, _⟩
  · have := h 4 (by omega) (by omega)
    rw [hi 4 (by omega)] at this
    cases this
  · rw [hi j (by omega), decide_eq_true_eq] at hp
    subst hp
    exact e
theorem ch_list : clist (chC b 64) = (if chA b then [(4, 0)] else []) ++ (if chH b then [(4, 7)] else []) := by
  have h78 : (chC b 64) 78 = 0 := by rw [chO b 78 (by omega)]; rfl
  have h0 : (chC b 64) 0 = 0 := by rw [chO b 0 (by omega)]; rfl
  have h79 : (chC b 64) 79 = 7 := by rw [chO b 79 (by omega)]; rfl
  have h80 : (chC b 64) 80 = 0 := by rw [chO b 80 (by omega)]; rfl
  have r1 : rk (chC b 64) 0 1 = 0 := by unfold rk; rw [show rightAt 0 1 = 80 from rfl, h80]; rfl
  have r0 : rk (chC b 64) 0 0 = 7 := by unfold rk; rw [show rightAt 0 0 = 79 from rfl, h79]; rfl
  have c1 : (chC b 64) (1 + 0) = 4 := by rw [chF b 0 (by omega)]; unfold chV; rw [first_at 0 (by omega)]; rfl
  have c8 : (chC b 64) (1 + 7) = 4 := by rw [chF b 7 (by omega)]; unfold chV; rw [first_at 7 (by omega)]; rfl
  have e1 : cand (chC b 64) 0 1 4 = if chA b then some 0 else none := by
    unfold cand
    rw [show rightAt 0 1 = 80 from rfl, h80, if_neg (by omega), r1, ch_mayA]
    unfold rookOk
    rw [c1]
    cases chA b <;> rfl
  have e0 : cand (chC b 64) 0 0 4 = if chH b then some 7 else none := by
    unfold cand
    rw [show rightAt 0 0 = 79 from rfl, h79, if_neg (by omega), r0, ch_mayH]
    unfold rookOk
    rw [c8]
    cases chH b <;> rfl
  unfold clist
  rw [h78, h0, ch_find, if_pos (by decide)]
  simp only [List.filterMap_cons, List.filterMap_nil]
  rw [show Int.toNat 0 = 0 from rfl, show Int.toNat 4 = 4 from rfl, e1, e0]
  cases chA b <;> cases chH b <;> rfl
theorem ch_both : bothB (clist (chC b 64)) (chA b) (chH b) = true := by
  rw [ch_list]
  cases chA b <;> cases chH b <;> decide
theorem ch_check : K.check (chC b 64) 0 = !chS b 4 := by
  have h0 : (chC b 64) 0 = 0 := by rw [chO b 0 (by omega)]; rfl
  have hl : K.lost (chC b 64) 0 = false := by unfold K.lost; rw [ch_find, h0]; rfl
  have hk : K.kingOk (chC b 64) 0 = true := by unfold K.kingOk; rw [hl, h0]; rfl
  unfold K.check K.kingAt chS
  rw [hk, if_pos rfl, ch_find]
  simp [K.oc]
end
end T

end Go.Proofs.YtnkkhdcjbjiimaaDoor
