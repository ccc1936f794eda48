/- Several texts in one: Law08, Law08b, Law08c, Law08d, Law08e, Law08f. -/
import Derived.Test.YtlphjjekamhnlaaDoorBaseC
import Derived.Test.YtlphjjekamhnlaaDoorDocB
namespace Go.Proofs.YtlphjjekamhnlaaDoor
open Go.RowKit Go.Sort

def noneC : Nat → Int := fun i => if i = 83 then -1 else if i = 87 then 1 else 0
theorem none_cells : Value.agg ((Tryd.zeroCells31.setIfInBounds 83 (.int .i8 (-1))).setIfInBounds 87 (.int .i64 1)) = .agg (posC noneC) := by kernel_rfl

def awP : Nat → Int := upd (upd (upd (upd noneC 5 6) 1 4) 61 14) 37 12
def awQ : Nat → Int := upd (upd (upd (upd noneC 13 1) 15 1) 7 2) 2 2
theorem awP_bd : BdOk awP := fun s hs => (show ∀ s : Fin 64, 0 ≤ awP (1 + s.val) ∧ awP (1 + s.val) ≤ 255 by decide +kernel) ⟨s, hs⟩
theorem awQ_bd : BdOk awQ := fun s hs => (show ∀ s : Fin 64, 0 ≤ awQ (1 + s.val) ∧ awQ (1 + s.val) ≤ 255 by decide +kernel) ⟨s, hs⟩
theorem aw1 : K.check awP 0 = true := by decide +kernel
theorem aw2 : K.check awP 1 = false := by decide +kernel
theorem aw3 : K.checkers awP = 68719476736#64 := by decide +kernel
theorem aw4 : K.by awQ 21 0 = 20544#64 := by decide +kernel
theorem aw5 : K.on awQ 28 0 = false := by decide +kernel
theorem aw6 : K.from awQ 1 = 329728#64 := by decide +kernel

theorem check_eq' (c : Nat → Int) (color : Int) (b : Bool) (w : World) (hc : BdOk c) (hT : Tb w) (hv : 0 ≤ c 0) (h0 : 0 ≤ color) (h : K.check c color = b) :
    Calls Tryd.prog 104 #[.agg (posC c), .int .u8 color] w fun e w' => e = .returned (.bool b) ∧ Below w.heap.size w w' := by
  rw [← h]; exact check_any c color w hc hT hv h0
theorem by_eq' (c : Nat → Int) (s color : Int) (v : BitVec 64) (n : Int) (w : World) (hc : BdOk c) (hT : Tb w) (h : K.by c s color = v) (hn : U v = n) :
    Calls Tryd.prog 78 #[.agg (posC c), .int .i64 s, .int .u8 color] w fun e w' => e = .returned (.int .u64 n) ∧ Below w.heap.size w w' := by
  rw [← hn, ← h]; exact by_any c s color w hc hT
theorem on_eq' (c : Nat → Int) (s color : Int) (b : Bool) (w : World) (hc : BdOk c) (hT : Tb w) (h : K.on c s color = b) :
    Calls Tryd.prog 124 #[.agg (posC c), .int .i64 s, .int .u8 color] w fun e w' => e = .returned (.bool b) ∧ Below w.heap.size w w' := by
  rw [← h]; exact on_any c s color w hc hT
theorem old_below {w W : World} (h : Below w.heap.size w W) : w.heap.size ≤ W.heap.size := h.size

end Go.Proofs.YtlphjjekamhnlaaDoor

namespace Go.Proofs.YtlphjjekamhnlaaDoor
open Go.RowKit Go.Sort

theorem pos_u8 {c : Nat → Int} (h : PosOk c) {i : Nat} (hi : i < 88) (hk : pk i = .u8) : 0 ≤ c i ∧ c i ≤ 255 := by
  have := h i hi
  rw [hk] at this
  exact bounds_u8 this
theorem pos_bd {c : Nat → Int} (h : PosOk c) : BdOk c := fun s hs => pos_u8 h (by omega) (pk_board hs)

theorem quiet_load_box {K : Act → Prop} {a : Act} {o : Oper} {w : World} (x : Operand) (ho : o.op = .load 31 x)
    (h : ∃ (g : Nat) (c : Nat → Int), a.eval x = .pointer (some ⟨g, 0, none⟩) ∧ PosAt w g c ∧ K (a.put o.dst (.agg (posC c)))) : o.quiet Tryd.prog a (fun w' => ∃ p : Regrown, w' = grow (redrawn w p.d) p.os) K := by
  obtain ⟨g, c, hx, hp, hk⟩ := h
  exact quiet_load_pos x ho c ⟨g, _, _, hx, fun w' ⟨p, e⟩ => by rw [e, heap_grow _ _ _ _ hp.lt]; exact hp.heap⟩ hk
theorem tb_grow {w : World} {d : Nat} {os : Array Obj} (h : Tb w) : Tb (grow (redrawn w d) os) := tb_below h (below_regrown w d os)

theorem on_val (c : Nat → Int) (s color : Int) (v : BitVec 64) (w : World) (hc : BdOk c) (hT : Tb w) (h : K.by c s color = v) :
    Calls Tryd.prog 124 #[.agg (posC c), .int .i64 s, .int .u8 color] w fun e w' => e = .returned (.bool (U v != 0)) ∧ Below w.heap.size w w' := by
  rw [← h]; exact on_any c s color w hc hT

theorem by_val (c : Nat → Int) (s color : Int) (v : BitVec 64) (w : World) (hc : BdOk c) (hT : Tb w) (h : K.by c s color = v) :
    Calls Tryd.prog 78 #[.agg (posC c), .int .i64 s, .int .u8 color] w fun e w' => e = .returned (.int .u64 (U v)) ∧ Below w.heap.size w w' := by
  rw [← h]; exact by_any c s color w hc hT
theorem d8by_val (c : Nat → Int) (s color : Int) (v : BitVec 64) (w : World) (hc : BdOk c) (h : D.by' c s color = v) :
    Calls Tryd.prog 107 #[.agg (posC c), .int .i64 s, .int .u8 color] w fun e w' => e = .returned (.int .u64 (U v)) ∧ Below w.heap.size w w' := by
  rw [← h]; exact d8by_any c s color w hc
theorem d8check_val (c : Nat → Int) (color : Int) (b : Bool) (w : World) (hc : BdOk c) (h : D.check c color = b) :
    Calls Tryd.prog 74 #[.agg (posC c), .int .u8 color] w fun e w' => e = .returned (.bool b) ∧ Below w.heap.size w w' := by
  rw [← h]; exact d8check_any c color w hc
end Go.Proofs.YtlphjjekamhnlaaDoor

namespace Go.Proofs.YtlphjjekamhnlaaDoor
open Go.RowKit Go.Sort

def okL (x : Int) : Bool := x == 0 || P.isB x
def lawTo (c : Nat → Int) : Nat → Nat → Bool
  | _, 0 => true
  | k, n + 1 => okL (c (1 + k)) && lawTo c (k + 1) n
def lawB (c : Nat → Int) : Bool := lawTo c 0 64
theorem lawTo_iff (c : Nat → Int) : ∀ n k, lawTo c k n = true ↔ ∀ j, k ≤ j → j < k + n → okL (c (1 + j)) = true
  | 0, k => by simp [lawTo]; intro j h1 h2; omega
  | n + 1, k => by
    rw [lawTo, Bool.and_eq_true, lawTo_iff c n (k + 1)]
    constructor
    · intro ⟨h, hr⟩ j h1 h2
      by_cases e : j = k
      · rw [e]; exact h
      · exact hr j (by omega) (by omega)
    · intro h
      exact ⟨h k (by omega) (by omega), fun j h1 h2 => h j (by omega) (by omega)⟩
theorem lawB_iff (c : Nat → Int) : lawB c = true ↔ ∀ j, j < 64 → okL (c (1 + j)) = true := by
  unfold lawB
  rw [lawTo_iff]
  exact ⟨fun h j hj => h j (by omega) (by omega), fun h j _ hj => h j (by omega)⟩
theorem okL_spec (x : Int) (h0 : 0 ≤ x) (h1 : x ≤ 255) : okL x = !(decide (x ≠ 0) && (decide (15 < x) || (decide (x % 8 < 1) || decide (6 < x % 8)))) :=
  all8 (fun x => okL x = !(decide (x ≠ 0) && (decide (15 < x) || (decide (x % 8 < 1) || decide (6 < x % 8))))) (by decide +kernel) x h0 h1

end Go.Proofs.YtlphjjekamhnlaaDoor

namespace Go.Proofs.YtlphjjekamhnlaaDoor
open Go.RowKit Go.Sort

/-- A square out of any number. -/
def md (s : Int) : Nat := (s % 64).toNat
theorem md_lt (s : Int) : md s < 64 := by unfold md; omega
theorem md_int (s : Int) : ((md s : Nat) : Int) = s % 64 := by unfold md; omega

theorem lawful_k (c : Nat → Int) (hc : BdOk c) (h : lawB c = true) (j : Nat) (hj : j < 64) : (P.kind (c (1 + j)) != 0) = (c (1 + j) != 0) := by
  have := (lawB_iff c).1 h j hj
  obtain ⟨x0, x1⟩ := hc j hj
  rw [isB_kind _ x0 x1]
  unfold okL at this
  cases hb : P.isB (c (1 + j))
  · rw [hb] at this; simp at this; rw [this]; rfl
  · have : c (1 + j) ≠ 0 := by intro e; rw [e] at hb; cases hb
    simpa using this

theorem hits_self (c : Nat → Int) (a : Nat) : D.hits c a a = false := by
  have u : D.up a a = 0 := by unfold D.up; omega
  have s : D.aside a a = 0 := by unfold D.aside; rw [show (a : Int) % 8 - (a : Int) % 8 = 0 by omega]; rfl
  have e1 : D.straight a a = false := by unfold D.straight; rw [u, s]; rfl
  have e2 : D.across a a = false := by unfold D.across; rw [u, s]; rfl
  have e3 : D.beside (a : Int) a = false := by unfold D.beside; simp
  unfold D.hits
  rw [u, s, e1, e2, e3]
  split
  · split <;> rfl
  split
  · rfl
  split
  · rfl
  split
  · rfl
  split
  · rfl
  split <;> rfl

theorem hits_none (c : Nat → Int) (a b : Nat) (h : P.kind (c (1 + a)) = 0) : D.hits c a b = false := by
  unfold D.hits
  rw [h]
  rfl

theorem bit_from (c : Nat → Int) (a b : Nat) (hc : BdOk c) (ha : a < 64) (hb : b < 64) : bit (K.from c a) b = D.hits c a b := by
  rw [from_eq c a hc]
  unfold D.from'
  rw [if_pos (by unfold K.there; simp; omega), Int.toNat_natCast, bit_fromTo c a b hb 64 (by omega)]
  simp [hb]
theorem bit_by (c : Nat → Int) (a b : Nat) (color : Int) (hc : BdOk c) (ha : a < 64) (hb : b < 64) (h0 : 0 ≤ color) (h1 : color ≤ 1) :
    bit (K.by c b color) a = (P.kind (c (1 + a)) != 0 && (D.color (c (1 + a)) == color && D.hits c a b)) := by
  rw [by_eq c b color hc h0, if_pos h1]
  unfold D.by'
  rw [if_pos (by unfold K.there; simp; omega), Int.toNat_natCast, bit_byTo c b color a ha 64 (by omega)]
  simp [ha]

/-- A test of one square. -/
theorem test_bit (x : BitVec 64) (b : Nat) (hb : b < 64) : (U (bAnd x (B.one (b : Int))) != 0) = bit x b := by
  rw [U_ne, Bool.eq_iff_iff, decide_eq_true_eq]
  constructor
  · intro h
    obtain ⟨j, hj, hbj⟩ := some_of h
    rw [bit_and, bit_one b j hb] at hbj
    simp at hbj
    rw [← hbj.2]; exact hbj.1
  · intro h e
    have := congrArg (fun y => bit y b) e
    simp only [bit_and, bit_zero, bit_one b b hb, h] at this
    simp at this

theorem u64mod (s : Int) : ∃ n : Nat, n < 64 ∧ (IntKind.u64.wrap s).tmod 64 = (n : Int) := by
  refine ⟨md s, md_lt s, ?_⟩
  rw [IntKind.wrap_u64, Int.tmod_eq_emod_of_nonneg (by omega), md_int]
  omega

end Go.Proofs.YtlphjjekamhnlaaDoor

namespace Go.Proofs.YtlphjjekamhnlaaDoor
open Go.RowKit Go.Sort

theorem bdOk_upd {c : Nat → Int} (hc : BdOk c) (i : Nat) (v : Int) (h0 : 0 ≤ v) (h1 : v ≤ 255) : BdOk (upd c i v) := fun s hs => by
  unfold upd
  split
  · exact ⟨h0, h1⟩
  · exact hc s hs
theorem free_less {x y : BitVec 64} (a b : Nat) (h : ∀ j, j < 64 → bit x j = true → bit y j = true) (hf : free y a b = true) : free x a b = true := by
  rw [free_iff] at hf ⊢
  intro j hj hb
  have := hf j hj hb
  cases hx : bit x j
  · rfl
  · rw [h j hj hx] at this; cases this
theorem hitsK_less (k color : Int) {x y : BitVec 64} (a b : Nat) (h : ∀ j, j < 64 → bit x j = true → bit y j = true) (hf : D.hitsK k color y a b = true) : D.hitsK k color x a b = true := by
  unfold D.hitsK at hf ⊢
  have e : ∀ s : Bool, (s && free y a b) = true → (s && free x a b) = true := fun s hs => by
    rw [Bool.and_eq_true] at hs ⊢
    exact ⟨hs.1, free_less a b h hs.2⟩
  split at hf <;> rename_i h1
  · rw [if_pos h1]; exact hf
  rw [if_neg h1]
  split at hf <;> rename_i h2
  · rw [if_pos h2]; exact hf
  rw [if_neg h2]
  split at hf <;> rename_i h3
  · rw [if_pos h3]; exact hf
  rw [if_neg h3]
  split at hf <;> rename_i h4
  · rw [if_pos h4]; exact e _ hf
  rw [if_neg h4]
  split at hf <;> rename_i h5
  · rw [if_pos h5]; exact e _ hf
  rw [if_neg h5]
  split at hf <;> rename_i h6
  · rw [if_pos h6]; exact e _ hf
  rw [if_neg h6]
  exact hf
theorem less_all (c : Nat → Int) (s : Nat) (v : Int) (hz : c (1 + s) = 0) (j : Nat) (hj : j < 64) (h : bit (S.all c) j = true) : bit (S.all (upd c (1 + s) v)) j = true := by
  rw [bit_all c j hj] at h
  rw [bit_all _ j hj]
  unfold upd
  rw [if_neg (fun e => by rw [e, hz] at h; cases h)]
  exact h
theorem from_less (c : Nat → Int) (s a : Nat) (v : Int) (hc : BdOk c) (h0 : 0 ≤ v) (h1 : v ≤ 255) (ha : a < 64) (hz : c (1 + s) = 0) (hne : a ≠ s) :
    bAndn (K.from (upd c (1 + s) v) a) (K.from c a) = 0#64 := by
  refine zero_of fun b hb => ?_
  have hq := bdOk_upd hc (1 + s) v h0 h1
  rw [bit_andn, bit_from _ a b hq ha hb, bit_from c a b hc ha hb, hits_K _ a b hq ha hb, hits_K c a b hc ha hb, upd_other _ _ _ _ (by omega)]
  cases hh : D.hitsK (P.kind (c (1 + a))) (D.color (c (1 + a))) (S.all (upd c (1 + s) v)) a b
  · rfl
  · rw [hitsK_less _ _ a b (fun j hj => less_all c s v hz j hj) hh]; rfl

end Go.Proofs.YtlphjjekamhnlaaDoor

namespace Go.Proofs.YtlphjjekamhnlaaDoor
open Go.RowKit Go.Sort

def bv1 (b : Bool) : Int := if b then 1 else 0
theorem bit_shr (x : BitVec 64) (k n : Nat) : bit (bShr x k) n = bit x (k + n) := by unfold bit bShr; rw [BitVec.getLsbD_ushiftRight]
@[go_sem] theorem and_one (x : BitVec 64) : bits .and .u64 (U x) 1 = bv1 (bit x 0) := by
  have h := bv_and x 1#64
  have e : U (1#64) = 1 := rfl
  rw [e] at h
  rw [h]
  unfold U bv1 bAnd
  rw [bit_test, BitVec.toNat_and]
  have : (1#64).toNat = 1 := rfl
  rw [this, Nat.and_one_is_mod, Nat.testBit_zero]
  rcases Nat.mod_two_eq_zero_or_one x.toNat with h | h <;> rw [h] <;> rfl

theorem check_royal (c : Nat → Int) (color : Int) (h : V.royal (c 0) color = false) : K.check c color = false := by
  unfold K.check K.kingOk; rw [h]; rfl
theorem checkers_royal (c : Nat → Int) (h : V.royal (c 0) (c 78) = false) : K.checkers c = 0#64 := by
  unfold K.checkers K.kingOk; rw [h]; rfl
theorem check_checkers (c : Nat → Int) : K.check c (c 78) = (U (K.checkers c) != 0) := by
  unfold K.check K.checkers K.on
  cases K.kingOk c (c 78) <;> rfl
theorem bit_checkers (c : Nat → Int) (a : Nat) (hc : BdOk c) (ha : a < 64) (h0 : 0 ≤ c 78) (hl : lawB c = true) (h : bit (K.checkers c) a = true) : (c (1 + a) == 0) = false ∧ (c (1 + a) / 8 == c 78) = false := by
  unfold K.checkers at h
  cases hk : K.kingOk c (c 78)
  · rw [hk, if_neg (by simp), bit_zero] at h; cases h
  · rw [hk, if_pos rfl] at h
    have hcol := kingOk_color c _ hk
    obtain ⟨h1, h2⟩ := king_eq c (c 78) hc h0
    rw [hk] at h1
    have hs : K.there (K.kingAt c (c 78)) = true := by
      cases ht : K.there (K.kingAt c (c 78))
      · unfold K.by at h
        rw [ht, if_neg (by simp), bit_zero] at h; cases h
      · rfl
    obtain ⟨n, hn, hn64, _⟩ := there_nat _ hs
    rw [hn] at h
    have hoc : K.oc (c 78) = 1 - c 78 := by unfold K.oc; omega
    rw [hoc, bit_by c a n _ hc ha hn64 (by omega) (by omega), lawful_k c hc hl a ha, Bool.and_eq_true, Bool.and_eq_true] at h
    obtain ⟨g1, g2, _⟩ := h
    refine ⟨by simpa using g1, ?_⟩
    have g3 : c (1 + a) / 8 = 1 - c 78 := by simpa [D.color] using g2
    simp; omega

def rC : Nat → Int := upd (upd (upd (upd noneC 0 3) 28 6) 29 14) 4 13
theorem rC_bd : BdOk rC := fun s hs => (show ∀ s : Fin 64, 0 ≤ rC (1 + s.val) ∧ rC (1 + s.val) ≤ 255 by decide +kernel) ⟨s, hs⟩
theorem rC0 : K.check rC 0 = false := by decide +kernel
theorem rC1 : K.check rC 1 = false := by decide +kernel

end Go.Proofs.YtlphjjekamhnlaaDoor
