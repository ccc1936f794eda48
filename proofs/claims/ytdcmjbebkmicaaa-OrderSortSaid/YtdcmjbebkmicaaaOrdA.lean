/- The program's package order: what a move takes, what moves. -/
import Derived.Test.YtdcmjbebkmicaaaBox
import Derived.Test.YtdcmjbebkmicaaaPieces
import Derived.Test.YtdcmjbebkmicaaaMoves13
import Derived.Shelf.SlSortCmp.QuietGrown
namespace Go.Proofs.Ytdcmjbebkmicaaa
open Go.RowKit Go.Sort

/-- Draws and blocks laid behind, no more. -/
def Grows (w w' : World) : Prop := ∃ q os, w' = grow (w.drewN q) os
theorem Grows.refl (w : World) : Grows w w := ⟨0, #[], by rw [grow_empty]; rfl⟩
theorem Grows.of_eq {w w' : World} (h : w = w') : Grows w w' := h ▸ Grows.refl w
theorem Grows.trans {a b c : World} (h : Grows a b) (k : Grows b c) : Grows a c := by
  obtain ⟨q, os, rfl⟩ := h
  obtain ⟨q', os', rfl⟩ := k
  exact ⟨q + q', os ++ os', by show grow (grow ((a.drewN q).drewN q') os) os' = _; rw [grow_grow, World.drewN_drewN]⟩
theorem Grows.alloc (w : World) (o : Obj) : Grows w (w.alloc o) := ⟨0, #[o], by rw [alloc_eq_grow]; rfl⟩
theorem Grows.drewN (w : World) (n : Nat) : Grows w (w.drewN n) := ⟨n, #[], by rw [grow_empty]⟩
theorem Grows.grown (w : World) (n : Nat) (os : Array Obj) : Grows w (grow (w.drewN n) os) := ⟨n, os, rfl⟩
theorem Grows.below {w w' : World} (h : Grows w w') : Below w.heap.size w w' := by
  obtain ⟨q, os, rfl⟩ := h
  refine ⟨rfl, rfl, rfl, ?_, fun k hk => ?_⟩
  · show w.heap.size ≤ (w.heap ++ os).size
    simp
  · show (w.heap ++ os)[k]? = w.heap[k]?
    rw [Array.getElem?_append_left hk]
/-- A region that draws, whose callees draw and lay blocks behind. -/
theorem region_grows {P : Program} {id : Nat} {Q : Exit → Act → World → Prop} {a : Act} {w : World} {l : List Oper} (hm : P.follows .mixedOrders = true) (hB : Region.lexB .any l.toArray = true)
    (h : wpQuiet P l.toArray (fun w' => ∃ p : GrownBy, w' = grow (w.drewN p.n) p.os) (fun a' => ∀ w', Grows w w' → Q .normal a' w') l a) : (Code.region id l.toArray true).wp P Q a w := by
  refine wp_region_quiet_grown hm hB ?_
  have e : (fun a' => ∀ w', (∃ p : GrownBy, w' = grow (w.drewN p.n) p.os) → Q .normal a' w') = (fun a' => ∀ w', Grows w w' → Q .normal a' w') := by
    funext a'
    exact propext ⟨fun h w' ⟨q, os, e⟩ => h w' ⟨⟨q, os⟩, e⟩, fun h w' ⟨p, e⟩ => h w' ⟨p.n, p.os, e⟩⟩
  rw [e]
  exact h
theorem grown_below (w : World) (n : Nat) (os : Array Obj) : Below w.heap.size w (grow (w.drewN n) os) := (Grows.grown w n os).below
@[go_sem] theorem cell_grownN (w : World) (n : Nat) (os : Array Obj) (b o : Nat) (h : b < w.heap.size) : (grow (w.drewN n) os).cell? ⟨b, o, none⟩ = w.cell? ⟨b, o, none⟩ :=
  (grown_below w n os).cell (p := ⟨b, o, none⟩) h
theorem quiet_grows {P : Program} {f : FuncId} {args : Array Value} {w : World} {n : Nat} {os : Array Obj} {v : Value}
    (h : Calls P f args (grow (w.drewN n) os) fun e w' => e = .returned v ∧ Grows (grow (w.drewN n) os) w') : Calls P f args (grow (w.drewN n) os) fun e w'' => e = .returned v ∧ ∃ p : GrownBy, w'' = grow (w.drewN p.n) p.os :=
  Calls.grown_of h
theorem quiet_grows_same {P : Program} {f : FuncId} {args : Array Value} {w : World} {n : Nat} {os : Array Obj} {v : Value}
    (h : Calls P f args (grow (w.drewN n) os) fun e w' => e = .returned v ∧ grow (w.drewN n) os = w') : Calls P f args (grow (w.drewN n) os) fun e w'' => e = .returned v ∧ ∃ p : GrownBy, w'' = grow (w.drewN p.n) p.os :=
  Calls.grown_of (h.mono fun _ _ ⟨a, b⟩ => ⟨a, Grows.of_eq b⟩)
theorem quiet_load_grown {K : Act → Prop} {a : Act} {o : Oper} {w : World} (x : Operand) (ho : o.op = .load 31 x)
    (h : ∃ (g : Nat) (c : Nat → Int), a.eval x = .pointer (some ⟨g, 0, none⟩) ∧ PosAt w g c ∧ K (a.put o.dst (.agg (posC c)))) : o.quiet Try.prog a (fun w' => ∃ p : GrownBy, w' = grow (w.drewN p.n) p.os) K := by
  obtain ⟨g, c, hx, hp, hk⟩ := h
  exact quiet_load_pos x ho c ⟨g, _, _, hx, fun w' ⟨p, e⟩ => by rw [e]; exact (hp.below (grown_below _ _ _)).heap⟩ hk

namespace O
def sq (s : Int) : Bool := decide (0 ≤ s) && decide (s < 64)
/-- What stands on a square. -/
def on (c : Nat → Int) (s : Int) : Int := if sq s && P.isB (c (1 + s.toNat)) then c (1 + s.toNat) else 0
end O
theorem osquare_any (s : Int) (w : World) : Calls Try.prog 37 #[.int .i8 s] w fun e w' => e = .returned (.bool (O.sq s)) ∧ w = w' := by
  unfold O.sq
  by_cases h : 0 ≤ s
  · have hd : decide (0 ≤ s) = true := by simpa using h
    go_enter Try.func37, Try.ntmps37
    go_wp2
    go_ret
    exact ⟨ret_bool (by rw [hd]; rfl), rfl⟩
  · have hd : decide (0 ≤ s) = false := by simpa using h
    go_enter Try.func37, Try.ntmps37
    go_wp2
    go_ret
    exact ⟨rfl, rfl⟩
theorem pos_u8' {c : Nat → Int} (h : PosOk c) {i : Nat} (hi : i < 88) (hk : pk i = .u8) : 0 ≤ c i ∧ c i ≤ 255 := by
  have := h i hi
  rw [hk] at this
  exact bounds_u8 this
set_option maxRecDepth 100000 in
set_option maxHeartbeats 1000000 in
theorem oon_any (c : Nat → Int) (s : Int) (w : World) (hc : PosOk c) : Calls Try.prog 38 #[.agg (posC c), .int .i8 s] w fun e w' => e = .returned (.int .u8 (O.on c s)) ∧ Grows w w' := by
  by_cases hs : 0 ≤ s ∧ s < 64
  · obtain ⟨n, rfl⟩ : ∃ n : Nat, s = (n : Int) := ⟨s.toNat, by omega⟩
    have hn : n < 64 := by omega
    have hb := posC_board c n hn
    obtain ⟨h0, h1⟩ := pos_u8' hc (show 1 + n < 88 by omega) (pk_board hn)
    clear hs
    have HO : O.on c (n : Int) = if P.isB (c (1 + n)) then c (1 + n) else 0 := by
      unfold O.on O.sq
      rw [Int.toNat_natCast]
      have e1 : decide (0 ≤ (n : Int)) = true := by simp
      have e2 : decide ((n : Int) < 64) = true := by simp; omega
      rw [e1, e2]; rfl
    obtain ⟨x, hx⟩ : ∃ x, c (1 + n) = x := ⟨_, rfl⟩
    rw [hx] at hb h0 h1 HO
    cases hi : P.isB x
    · rw [HO, hi]
      clear HO hc hx
      go_enter Try.func38, Try.ntmps38
      go_wp2_with (go_at_call 60; refine (is_eq _ _ _ (by omega) (by omega) hi).mono ?_; rintro e w' ⟨rfl, rfl⟩)
      go_ret
      exact ⟨rfl, Grows.alloc _ _⟩
    · rw [HO, hi]
      clear HO hc hx
      go_enter Try.func38, Try.ntmps38
      go_wp2_with (go_at_call 60; refine (is_eq _ _ _ (by omega) (by omega) hi).mono ?_; rintro e w' ⟨rfl, rfl⟩)
      go_ret
      exact ⟨rfl, Grows.alloc _ _⟩
  · have HO : O.on c s = 0 := by
      unfold O.on O.sq
      rw [if_neg (by simp; omega)]
    rw [HO]
    clear HO hc
    go_enter Try.func38, Try.ntmps38
    go_wp2
    all_goals
      go_ret
      exact ⟨rfl, Grows.alloc _ _⟩

namespace O
/-- What a move takes. -/
def taken (c : Nat → Int) (m : Mv) : Int :=
  if m.2.2.2.1 != 0 || m.2.2.2.2 || !sq m.1 || !sq m.2.1 || decide (1 < c 78) then 0
  else if P.color (on c m.2.1) == 1 - c 78 then P.kind (on c m.2.1)
  else if m.2.1 == c 83 && on c m.1 == P.make (c 78) 1 && m.1 % 8 != m.2.1 % 8 then 1 else 0
/-- What moves. -/
def moving (c : Nat → Int) (m : Mv) : Int := if m.2.2.2.1 != 0 then m.2.2.2.1 else P.kind (on c m.1)
theorem on_bd {c : Nat → Int} (hc : PosOk c) (s : Int) : 0 ≤ on c s ∧ on c s ≤ 255 := by
  unfold on sq
  split
  · rename_i h
    simp at h
    exact pos_u8' hc (show 1 + s.toNat < 88 by omega) (pk_board (by omega))
  · omega
theorem on_eq (c : Nat → Int) (s x : Int) (w : World) (hc : PosOk c) (h : on c s = x) : Calls Try.prog 38 #[.agg (posC c), .int .i8 s] w fun e w' => e = .returned (.int .u8 x) ∧ Grows w w' := by
  rw [← h]; exact oon_any c s w hc
end O
set_option maxRecDepth 100000 in
set_option maxHeartbeats 2000000 in
theorem omoving_any (c : Nat → Int) (f t p d : Int) (ca : Bool) (w : World) (hc : PosOk c) : Calls Try.prog 15 #[.agg (posC c), .agg (M.cell (f, t, p, d, ca)).toArray] w fun e w' => e = .returned (.int .u8 (O.moving c (f, t, p, d, ca))) ∧ Grows w w' := by
  obtain ⟨x, hx⟩ : ∃ x, O.on c f = x := ⟨_, rfl⟩
  have hb := O.on_bd hc f
  have hO : O.moving c (f, t, p, d, ca) = if d != 0 then d else P.kind x := by rw [← hx]; rfl
  rw [hx] at hb
  have HON := Lib.hid (fun W => O.on_eq c f x W hc hx)
  clear hx hc
  unfold M.cell
  by_cases hd : d = 0
  · subst hd
    rw [hO]
    clear hO
    go_enter Try.func15, Try.ntmps15
    go_wp2_with (first
      | ((with_reducible refine wp_load_box rfl _ rfl ?_); refine ⟨_, _, rfl, (PosAt.new w c).alloc _, ?_⟩)
      | ((with_reducible refine wp_load_box_g rfl _ rfl ?_); refine ⟨_, _, rfl, (PosAt.new w c).alloc _, ?_⟩)
      | (go_at_call 38; refine (HON.out _).mono ?_; rintro e w' ⟨rfl, hg⟩)
      | (go_at_call 40; refine (kind_any _ _ (by omega) (by omega)).mono ?_; rintro e w' ⟨rfl, rfl⟩)
      | fail)
    go_ret
    exact ⟨rfl, ((Grows.alloc _ _).trans (Grows.alloc _ _)).trans hg⟩
  · have hd' : (d != 0) = true := by simpa using hd
    rw [hO, if_pos hd']
    clear hO
    go_enter Try.func15, Try.ntmps15
    go_wp2
    go_ret
    exact ⟨rfl, (Grows.alloc _ _).trans (Grows.alloc _ _)⟩

end Go.Proofs.Ytdcmjbebkmicaaa
