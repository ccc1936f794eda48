/- Several texts in one: LawX, List, AfT, AfK, AfW. -/
import Derived.RangeFuncBox
import Derived.RangeFuncLeaves
import Derived.OwnWalkIn
import Derived.TacticsInMore
import Derived.LoopNIn
import Derived.LoopIn
import Derived.Maps.AppendAt
import Derived.BigQuiet
import Derived.Test.YtgkndhpolcnjbaaGreatDoorQc
import Derived.Test.YtgkndhpolcnjbaaGreatDoorQg
import Derived.Test.YtgkndhpolcnjbaaGreatDoorQd
import Derived.Test.YtgkndhpolcnjbaaGreatDoorQe
namespace Go.Proofs.YtgkndhpolcnjbaaGreatDoor
open Go.RowKit Go.Sort
def noneC : Nat → Int := fun i => if i = 83 then -1 else if i = 87 then 1 else 0
theorem on_eq' (c : Nat → Int) (s color : Int) (b : Bool) (w : World) (hc : BdOk c) (hT : Tb w) (h : K.on c s color = b) :
    Calls Tryz.prog 150 #[.agg (posC c), .int .i64 s, .int .u8 color] w fun e w' => e = .returned (.bool b) ∧ Below w.heap.size w w' := by
  rw [← h]; exact on_any c s color w hc hT
end Go.Proofs.YtgkndhpolcnjbaaGreatDoor
namespace Go.Proofs.YtgkndhpolcnjbaaGreatDoor
open Go.RowKit Go.Sort
theorem pos_u8 {c : Nat → Int} (h : PosOk c) {i : Nat} (hi : i < 88) (hk : pk i = .u8) : 0 ≤ c i ∧ c i ≤ 255 := by
  have := h i hi
  rw [hk] at this
  exact bounds_u8 this
theorem pos_bd {c : Nat → Int} (h : PosOk c) : BdOk c := fun s hs => pos_u8 h (by omega) (pk_board hs)
theorem quiet_load_box {K : Act → Prop} {a : Act} {o : Oper} {w : World} (x : Operand) (ho : o.op = .load 31 x)
    (h : ∃ (g : Nat) (c : Nat → Int), a.eval x = .pointer (some ⟨g, 0, none⟩) ∧ PosAt w g c ∧ K (a.put o.dst (.agg (posC c)))) : o.quiet Tryz.prog a (fun w' => ∃ p : Regrown, w' = grow (redrawn w p.d) p.os) K := by
  obtain ⟨g, c, hx, hp, hk⟩ := h
  exact quiet_load_pos x ho c ⟨g, _, _, hx, fun w' ⟨p, e⟩ => by rw [e, heap_grow _ _ _ _ hp.lt]; exact hp.heap⟩ hk
theorem tb_grow {w : World} {d : Nat} {os : Array Obj} (h : Tb w) : Tb (grow (redrawn w d) os) := tb_below h (below_regrown w d os)
theorem by_val (c : Nat → Int) (s color : Int) (v : BitVec 64) (w : World) (hc : BdOk c) (hT : Tb w) (h : K.by c s color = v) :
    Calls Tryz.prog 81 #[.agg (posC c), .int .i64 s, .int .u8 color] w fun e w' => e = .returned (.int .u64 (U v)) ∧ Below w.heap.size w w' := by
  rw [← h]; exact by_any c s color w hc hT
end Go.Proofs.YtgkndhpolcnjbaaGreatDoor
namespace Go.Proofs.YtgkndhpolcnjbaaGreatDoor
open Go.RowKit Go.Sort
def okL (x : Int) : Bool := x == 0 || P.isB x
def lawTo (c : Nat → Int) : Nat → Nat → Bool
  | _, 0 => true
  | k, n + 1 => okL (c (1 + k)) && lawTo c (k + 1) n
def lawB (c : Nat → Int) : Bool := lawTo c 0 64
theorem okL_spec (x : Int) (h0 : 0 ≤ x) (h1 : x ≤ 255) : okL x = !(decide (x ≠ 0) && (decide (15 < x) || (decide (x % 8 < 1) || decide (6 < x % 8)))) :=
  all8 (fun x => okL x = !(decide (x ≠ 0) && (decide (15 < x) || (decide (x % 8 < 1) || decide (6 < x % 8))))) (by decide +kernel) x h0 h1
end Go.Proofs.YtgkndhpolcnjbaaGreatDoor
namespace Go.Proofs.YtgkndhpolcnjbaaGreatDoor
open Go.RowKit Go.Sort
/-- A square out of any number. -/
def md (s : Int) : Nat := (s % 64).toNat
theorem bit_by (c : Nat → Int) (a b : Nat) (color : Int) (hc : BdOk c) (ha : a < 64) (hb : b < 64) (h0 : 0 ≤ color) (h1 : color ≤ 1) :
    bit (K.by c b color) a = (P.kind (c (1 + a)) != 0 && (D.color (c (1 + a)) == color && D.hits c a b)) := by
  rw [by_eq c b color hc h0, if_pos h1]
  unfold D.by'
  rw [if_pos (by unfold K.there; simp; omega), Int.toNat_natCast, bit_byTo c b color a ha 64 (by omega)]
  simp [ha]
/-- A test of one square. -/
theorem test_bit (x : BitVec 64) (b : Nat) (hb : b < 64) : (U (bAnd x (B.one (b : Int))) != 0) = bit x b := by
  rw [U_ne, Bool.eq_iff_iff, decide_eq_true_eq]
  constructor
  · intro h
    obtain ⟨j, hj, hbj⟩ := some_of h
    rw [bit_and, bit_one b j hb] at hbj
    simp at hbj
    rw [← hbj.2]; exact hbj.1
  · intro h e
    have := congrArg (fun y => bit y b) e
    simp only [bit_and, bit_zero, bit_one b b hb, h] at this
    simp at this
end Go.Proofs.YtgkndhpolcnjbaaGreatDoor
namespace Go.Proofs.YtgkndhpolcnjbaaGreatDoor
open Go.RowKit Go.Sort
end Go.Proofs.YtgkndhpolcnjbaaGreatDoor
namespace Go.Proofs.YtgkndhpolcnjbaaGreatDoor
open Go.RowKit Go.Sort
def bv1 (b : Bool) : Int := if b then 1 else 0
theorem bit_shr (x : BitVec 64) (k n : Nat) : bit (bShr x k) n = bit x (k + n) := by unfold bit bShr; rw [BitVec.getLsbD_ushiftRight]
@[go_sem] theorem and_one (x : BitVec 64) : bits .and .u64 (U x) 1 = bv1 (bit x 0) := by
  have h := bv_and x 1#64
  have e : U (1#64) = 1 := rfl
  rw [e] at h
  rw [h]
  unfold U bv1 bAnd
  rw [bit_test, BitVec.toNat_and]
  have : (1#64).toNat = 1 := rfl
  rw [this, Nat.and_one_is_mod, Nat.testBit_zero]
  rcases Nat.mod_two_eq_zero_or_one x.toNat with h | h <;> rw [h] <;> rfl
end Go.Proofs.YtgkndhpolcnjbaaGreatDoor
namespace Go.Proofs.YtgkndhpolcnjbaaGreatDoor
open Go.RowKit Go.Sort
attribute [local go_sem] Oper.semAt_some
/-- A number without its least bit. -/
theorem nat_low (N n : Nat) (hn : N.testBit n = true) (hlo : ∀ m, m < n → N.testBit m = false) (j : Nat) : (N &&& (N - 1)).testBit j = (N.testBit j && decide (j ≠ n)) := by
  have hmod : N % 2 ^ n = 0 := Nat.eq_of_testBit_eq (fun i => by
    rw [Nat.testBit_mod_two_pow, Nat.zero_testBit]
    by_cases hi : i < n
    · rw [hlo i hi, Bool.and_false]
    · simp [hi])
  have hN : N = 2 ^ n * (N / 2 ^ n) := by have := Nat.div_add_mod N (2 ^ n); omega
  generalize N / 2 ^ n = M at hN
  have hb : ∀ i, N.testBit i = (decide (n ≤ i) && M.testBit (i - n)) := fun i => by rw [hN, Nat.testBit_two_pow_mul]
  have hM : M % 2 = 1 := by
    have := hb n
    rw [hn, Nat.sub_self, Nat.testBit_zero] at this
    simpa using this.symm
  obtain ⟨q, hq⟩ : ∃ q, M = 2 * q + 1 := ⟨M / 2, by omega⟩
  have hp := Nat.two_pow_pos n
  have h1 : N - 1 = 2 ^ n * (2 * q) + (2 ^ n - 1) := by
    rw [hN, hq, Nat.mul_add]
    omega
  rw [Nat.testBit_and, h1, Nat.testBit_two_pow_mul_add _ (by omega)]
  by_cases hj : j < n
  · rw [hlo j hj, Bool.false_and, Bool.false_and]
  · rw [if_neg hj, hb j, hq]
    by_cases hjn : j = n
    · subst hjn
      simp
    · obtain ⟨i, hi⟩ : ∃ i, j - n = i + 1 := ⟨j - n - 1, by omega⟩
      rw [hi, Nat.testBit_succ, Nat.testBit_succ, show (2 * q + 1) / 2 = q by omega, show 2 * q / 2 = q by omega]
      simp [hjn]
namespace B
/-- The squares of a set; a set without its least square. -/
def list (b : BitVec 64) : List Nat := (List.range 64).filter fun j => bit b j
def pred (b : BitVec 64) : BitVec 64 := b - 1#64
def less (b : BitVec 64) : BitVec 64 := bAnd b (pred b)
theorem pred_nat (b : BitVec 64) (h : b ≠ 0#64) : (pred b).toNat = b.toNat - 1 := by
  have h0 : b.toNat ≠ 0 := fun e => h (BitVec.eq_of_toNat_eq (by simpa using e))
  have := b.isLt
  unfold pred
  rw [BitVec.toNat_sub]
  simp
  omega
theorem pred_val (b : BitVec 64) (h : b ≠ 0#64) : IntKind.u64.wrap (U b - 1) = U (pred b) := by
  have h0 : b.toNat ≠ 0 := fun e => h (BitVec.eq_of_toNat_eq (by simpa using e))
  have := bv_lt b
  unfold U
  rw [pred_nat b h, IntKind.wrap_u64]
  omega
theorem bit_less (b : BitVec 64) (h : b ≠ 0#64) (n : Nat) (hn : bit b n = true) (hlo : ∀ m, m < n → bit b m = false) (j : Nat) : bit (less b) j = (bit b j && decide (j ≠ n)) := by
  unfold less
  rw [bit_and, bit_test, bit_test, pred_nat b h, ← Nat.testBit_and]
  exact nat_low b.toNat n hn hlo j
theorem filt (p q : Nat → Bool) (n : Nat) (hp : p n = true) (hlo : ∀ j, j < n → p j = false) (hq : ∀ j, q j = (p j && decide (j ≠ n))) :
    ∀ m k, k ≤ n → n < k + m → (List.range' k m).filter p = n :: (List.range' k m).filter q := by
  intro m
  induction m with
  | zero => intro k h1 h2; omega
  | succ m ih =>
    intro k h1 h2
    rw [List.range'_succ]
    by_cases e : k = n
    · subst e
      have hqk : q k = false := by rw [hq]; simp
      rw [List.filter_cons_of_pos hp, List.filter_cons_of_neg (by rw [hqk]; simp)]
      congr 1
      apply List.filter_congr
      intro j hj
      have := List.mem_range'.1 hj
      obtain ⟨i, _, e⟩ := this
      rw [hq]
      have : j ≠ k := by omega
      simp [this]
    · have hpk := hlo k (by omega)
      have hqk : q k = false := by rw [hq, hpk]; rfl
      rw [List.filter_cons_of_neg (by rw [hpk]; simp), List.filter_cons_of_neg (by rw [hqk]; simp)]
      exact ih (k + 1) (by omega) (by omega)
theorem list_cons (b : BitVec 64) (h : b ≠ 0#64) (n : Nat) (h64 : n < 64) (hn : bit b n = true) (hlo : ∀ m, m < n → bit b m = false) : list b = n :: list (less b) := by
  unfold list
  rw [List.range_eq_range']
  exact filt _ _ n hn hlo (bit_less b h n hn hlo) 64 0 (by omega) (by omega)
theorem list_zero : list 0#64 = [] := by
  unfold list
  rw [List.filter_eq_nil_iff]
  intro j _
  rw [bit_zero]; simp
theorem list_len (b : BitVec 64) : (list b).length ≤ 64 := by
  have := List.length_filter_le (fun j => bit b j) (List.range 64)
  unfold list
  simpa using this
theorem less_lt (b : BitVec 64) (h : b ≠ 0#64) : (less b).toNat < b.toNat := by
  have h0 : b.toNat ≠ 0 := fun e => h (BitVec.eq_of_toNat_eq (by simpa using e))
  unfold less bAnd
  rw [BitVec.toNat_and, pred_nat b h]
  have : b.toNat &&& (b.toNat - 1) ≤ b.toNat - 1 := Nat.and_le_right
  omega
end B
/-- What the iterator itself writes: its variable, which stays one. -/
def WrB (Bb : Nat) (W W' : World) : Prop := Put Bb W W' ∧ ∃ u, Boxed W' Bb 23 u
/-- What a round keeps: all that lay below, and the iterator's own variable. -/
def KpB (B0 Bb : Nat) (W W' : World) : Prop := Below B0 W W' ∧ ∀ o, W.heap[Bb]? = some o → W'.heap[Bb]? = some o
set_option maxRecDepth 100000 in
set_option maxHeartbeats 2000000 in
theorem all1_tells (n l B0 Bb : Nat) (b : BitVec 64) (J : List Nat → World → Prop) (W : World) (hn : 1 ≤ n) (hJW : ∀ s W W', J s W → WrB Bb W W' → J s W') (h0 : J [] W)
    (hB : Boxed W Bb 23 (.int .u64 (U b))) (hB0 : B0 ≤ Bb) (hT : ∀ W', Below B0 W W' → Tb W')
    (hY : ∀ (pre : List Nat) (x : Nat) (W1 : World), J pre W1 → pre.length < 64 ∧ x < 64 → YieldAt Fence.wide (n - 1) Tryz.prog l #[.int .i64 (x : Int)] W1 fun e W' => e = .returned (.bool true) ∧ J (pre ++ [x]) W' ∧ KpB B0 Bb W1 W') :
    CallsIn Fence.wide n Tryz.prog 257 #[.func (.yield l) #[] #[], .pointer (some ⟨Bb, 0, none⟩)] W fun e W' => (∃ v, e = .returned v) ∧ ∃ xs, xs = B.list b ∧ J xs W' := by
  refine callsIn_of_wp Tryz.func257 rfl trivial ?_ rfl
  simp only [Tryz.ntmps257, List.size_toArray, List.length_cons, List.length_nil, Nat.reduceAdd, Nat.reduceSub, Array.replicate_succ, Array.replicate_zero, List.push_toArray, List.append_toArray, List.nil_append, List.cons_append]
  have HY := Lib.hid hY
  have HT := Lib.hid hT
  have H0 := Lib.hid (And.intro h0 hB)
  clear hY hT h0 hB
  gi_wp2
  gi_loopw [] (fun wr => ∃ (pre : List Nat) (r : BitVec 64), J pre wr ∧ Boxed wr Bb 23 (.int .u64 (U r)) ∧ Hid (pre ++ B.list r = B.list b) ∧ Below B0 W wr)
    (fun wr => match wr.cell? ⟨Bb, 0, none⟩ with | some v => (intOf v).toNat | none => 0)
  case atStart => exact ⟨[], b, H0.out.1, H0.out.2, Lib.hid rfl, Below.refl _ _⟩
  case round =>
    obtain ⟨pre, r, hj, hb, HL, hbr⟩ := hrel
    have hc := hb.cell
    have hT1 := HT.out _ hbr
    have hz := U_zero r
    by_cases hr : r = 0#64
    · subst hr
      have hL := HL.out
      rw [B.list_zero, List.append_nil] at hL
      have HL2 := Lib.hid hL
      clear hL hz
      gi_wp2
      go_end0
      exact ⟨⟨_, rfl⟩, pre, HL2.out, hj⟩
    · obtain ⟨x, hx, h64, hbit, hlo⟩ := first_spec r hr
      have HX := Lib.hid (B.list_cons r hr x h64 hbit hlo)
      have hne : (U r != 0) = true := by simp [bne, hz, hr]
      have hs := B.pred_val r hr
      have HLt := Lib.hid (B.less_lt r hr)
      have HF := Lib.hid (first_any r wr hT1)
      rw [hx] at HF
      clear hbit hlo hz hr hx
      have hpl : pre.length < 64 := by
        have h := congrArg List.length HL.out
        have h2 := B.list_len b
        rw [HX.out, List.length_append, List.length_cons] at h
        omega
      have hyy := HY.out pre x wr hj ⟨hpl, h64⟩
      clear hpl
      obtain ⟨fn, tmps, assign, body, hy, hR⟩ := hyy
      change (Instr.yield l #[.int .i64 (x : Int)]).run _ _ = _ at hy
      gi_wp2_with (first
        | (refine ⟨trivial, ?_⟩; gi_at_call 83; refine (callsIn_wide.2 HF.out).mono ?_; rintro e w' ⟨rfl, rfl⟩)
        | (gi_at_call 83; refine (callsIn_wide.2 HF.out).mono ?_; rintro e w' ⟨rfl, rfl⟩))
      refine hR.mono ?_
      rintro e W3 ⟨rfl, hJ3, hk3⟩
      have hb3 : Boxed W3 Bb 23 (.int .u64 (U r)) := hk3.2 _ hb
      have hc3 := hb3.cell
      have hf3 := hb3.frozen
      have HZ := Lib.hid (show J (pre ++ [x]) (W3.setCell ⟨Bb, 0, none⟩ (.int .u64 (U (bAnd r (B.pred r))))) ∧ Boxed (W3.setCell ⟨Bb, 0, none⟩ (.int .u64 (U (bAnd r (B.pred r))))) Bb 23 (.int .u64 (U (B.less r))) ∧ Below B0 W (W3.setCell ⟨Bb, 0, none⟩ (.int .u64 (U (bAnd r (B.pred r))))) from
        ⟨hJW _ _ _ hJ3 ⟨put_setCell _ _ _ _, _, hb3.set _⟩, hb3.set _, (hbr.trans hk3.1).setCell (p := ⟨Bb, 0, none⟩) hB0 _⟩)
      have Hc := Lib.hid hc
      clear hJ3 hk3 hb3 hbr hj hb hc
      gi_wp2
      go_roundw
      case rel => exact ⟨pre ++ [x], B.less r, HZ.out.1, HZ.out.2.1, Lib.hid (by rw [List.append_assoc]; have h := HL.out; rw [HX.out] at h; exact h), HZ.out.2.2⟩
      case measure =>
        rw [HZ.out.2.1.cell, Hc.out]
        have := HLt.out
        simp [intOf, U]
        omega
theorem ball_any (b : BitVec 64) (w : World) : Calls Tryz.prog 180 #[.int .u64 (U b)] w fun e w' => e = .returned (.func (.func 257) #[] #[.pointer (some ⟨w.heap.size, 0, none⟩)]) ∧ w.alloc (.cells #[.int .u64 (U b)] 23) = w' := by
  go_enter Tryz.func180, Tryz.ntmps180
  go_wp2
  go_ret
  exact ⟨rfl, rfl⟩
theorem Tryz.info_intL : (Tryz.prog.info? 3).map (fun i => (i.zero, i.size, i.bytes)) = some (some (.int .i64 0), 1, 8) := by kernel_rfl
def B.ints (l : List Nat) : List Value := l.map fun (n : Nat) => Value.int .i64 (n : Int)
set_option maxRecDepth 100000 in
set_option maxHeartbeats 2000000 in
theorem blist_any (b : BitVec 64) (w : World) (hT : Tb w) :
    Calls Tryz.prog 111 #[.int .u64 (U b)] w fun e w' => ∃ v, e = .returned v ∧ w'.ownsRow w.heap.size 3 1 v (B.list b).length (B.ints (B.list b)) ∧ Below w.heap.size w w' := by
  have HT := Lib.hid hT
  clear hT
  refine (callsIn_wide (n := 6)).1 ?_
  refine callsIn_of_wp_marks Tryz.func111 rfl trivial ?_ rfl
  simp only [Tryz.ntmps111, List.size_toArray, List.length_cons, List.length_nil, Nat.reduceAdd, Nat.reduceSub, Array.replicate_succ, Array.replicate_zero, List.push_toArray, List.append_toArray, List.nil_append, List.cons_append]
  gi_wp2_with (first
    | (refine ⟨trivial, ?_⟩; gi_at_call 180; refine (callsIn_wide.2 (ball_any _ _)).mono ?_; rintro e w' ⟨rfl, rfl⟩)
    | (gi_at_call 180; refine (callsIn_wide.2 (ball_any _ _)).mono ?_; rintro e w' ⟨rfl, rfl⟩))
  have bO := Boxed.new w 68 (.slice none 0 0)
  have bB := Boxed.new (w.alloc (.cells #[.slice none 0 0] 68)) 23 (.int .u64 (U b))
  rw [World.size_alloc] at bB
  have hB0 : Below w.heap.size w ((w.alloc (.cells #[.slice none 0 0] 68)).alloc (.cells #[.int .u64 (U b)] 23)) := ((Below.refl _ w).alloc (Nat.le_refl _) _).alloc (by simp) _
  have hsz : ((w.alloc (.cells #[.slice none 0 0] 68)).alloc (.cells #[.int .u64 (U b)] 23)).heap.size = w.heap.size + 2 := by simp
  replace bO := bO.alloc (.cells #[.int .u64 (U b)] 23)
  obtain ⟨W0, hW0⟩ : ∃ W0, ((w.alloc (.cells #[.slice none 0 0] 68)).alloc (.cells #[.int .u64 (U b)] 23)) = W0 := ⟨_, rfl⟩
  rw [hW0] at bO bB hB0 hsz ⊢
  clear hW0
  obtain ⟨i0, hi, hz0, hz1, hz2⟩ := info_parts Tryz.info_intL
  refine rangeFunc_tellsW (gf := 257) (lb := #[.pointer (some ⟨w.heap.size + 1, 0, none⟩)]) (WrB (w.heap.size + 1)) (fun W W' k h hk => h.1.block k (by omega)) rfl (enters_of Tryz.func257 (by kernel_rfl) rfl) (fun x : Nat => #[.int .i64 (x : Int)]) (fun _ => rfl)
    (fun pre W => (∃ v, Boxed W w.heap.size 68 v ∧ W.ownsRow w.heap.size 3 1 v pre.length (B.ints pre)) ∧ (∃ u, Boxed W (w.heap.size + 1) 23 u) ∧ Below w.heap.size w W)
    (fun pre x _ => pre.length < 64 ∧ x < 64) (KpB w.heap.size (w.heap.size + 1))
    (fun x a' _ => a' = { tmps := #[.int .u64 (U b), undef, .slice none 0 0, .pointer (some ⟨w.heap.size, 0, none⟩), .int .i64 (x : Int), .int .u64 (U b), .func (.func 257) #[] #[.pointer (some ⟨w.heap.size + 1, 0, none⟩)], .int .i64 (x : Int), undef, undef, undef, undef, undef], defers := [] })
    (fun xs => xs = B.list b) ?wr ?gr ?pu (fun _ _ _ _ _ _ h _ _ _ => h) (fun _ _ _ _ _ _ h _ _ _ => h) (fun h k => ⟨h.1.trans k.1, fun o ho => k.2 o (h.2 o ho)⟩) ?kp (fun W => ⟨Below.refl _ _, fun _ h => h⟩) ?iter ?start ?assign ?body ?done
  case wr =>
    rintro pre W W' ⟨⟨v, hv, hr⟩, ⟨u, hu⟩, hb⟩ ⟨hP, hu'⟩
    exact ⟨⟨v, (hP.block _ (by omega)).trans hv, hP.owns hr (hu.not_row (by decide) hr).symm⟩, hu', hP.below hb (by omega)⟩
  case gr =>
    rintro pre W W' ⟨⟨v, hv, hr⟩, ⟨u, hu⟩, hb⟩ hb'
    exact ⟨⟨v, (hb'.block _ hv.lt).trans hv, hr.kept (below_grown hb') (by cases v.ownBlock <;> simp)⟩, ⟨u, (hb'.block _ hu.lt).trans hu⟩, below_next hb hb'⟩
  case pu =>
    rintro pre W l o o' ⟨⟨v, hv, hr⟩, ⟨u, hu⟩, hb⟩ hl ho hn
    have ne : ∀ {B : Nat} {t : TypeId} {x : Value}, Boxed W B t x → some B ≠ some l := fun hx e => by cases e; rw [show W.heap[_]? = _ from hx] at ho; cases ho; cases hn
    exact ⟨⟨v, hv.kept (grownBy_putObj' W l o') (ne hv), ownsRow_putObj hr o' ho hn⟩, ⟨u, hu.kept (grownBy_putObj' W l o') (ne hu)⟩, hb.grown (grownBy_putObj' W l o') hb.size (fun k e => by cases e; omega)⟩
  case kp =>
    rintro W W1 l o o' h hl ho hn
    exact ⟨h.1.grown (grownBy_putObj' W1 l o') (by have := (Array.getElem?_eq_some_iff.1 ho).1; omega) (fun k e => by cases e; omega), fun o2 h2 => (World.putObj_heap_other (by omega)).trans (h.2 o2 h2)⟩
  case iter =>
    intro l J W hW _ hJW h0 hY
    exact all1_tells 5 l w.heap.size (w.heap.size + 1) b J W (by omega) hJW h0 ((hW.block _ bB.lt).trans bB) (Nat.le_succ _) (fun W' hb => tb_below HT.out (hB0.trans ((hW.mono (by omega)).trans hb))) hY
  case start => exact ⟨⟨_, bO, World.ownsRow_nil _ _ _ _⟩, ⟨_, bB⟩, hB0⟩
  case assign =>
    intro l pre x W Kk hI hx hK
    have HI := Lib.hid hI
    gi_wp2
    exact hK _ _ (K.KeepsFrom.of_below (Below.refl _ _)) ⟨Below.refl _ _, fun _ h => h⟩ HI.out hx rfl
  case body =>
    rintro l pre x a' W hl ⟨⟨v, hv, hrow⟩, ⟨u, hu⟩, hB⟩ ⟨hpl, hx⟩ rfl
    have hc := hv.cell
    have hne : some (w.heap.size + 1) ≠ v.ownBlock := hu.not_row (by decide) hrow
    gi_wp2_with (gi_at_builtin; refine wpListIn_append_own _ rfl _ _ 68 rfl w.heap.size 3 i0 (.int .i64 0) 1 8 Tryz.underlying68 hi hz0 hz1 hz2 rfl (by decide) _ _ _ rfl (hrow.alloc _) ⟨W.heap.size, 0, none⟩ 1 1 [.int .i64 x] rfl rfl (cell_one_new _ _ _) (by simp [Value.oneCell']) (by unfold maxLen; omega) (by omega) (by have := hB.size; simp; omega) ?_; intro v' w1 hown' hgrow _; obtain ⟨g', cap', rfl⟩ := ownsRow_succ hown'; obtain ⟨hv1, hv2, hr2, hk2, hb2⟩ := hv.appended (by decide) hrow hB.size (Nat.le_refl _) hown' hgrow; have hc1 := hv1.cell; have hf1 := hv1.frozen)
    have hlt := hu.lt
    have hsame : (w1.setCell ⟨w.heap.size, 0, none⟩ (.slice (some ⟨g', 0, none⟩) (pre.length + 1) cap')).heap[w.heap.size + 1]? = W.heap[w.heap.size + 1]? :=
      ((grownBy_setCell' w1 w.heap.size _).block _ (by have := hgrow.size; simp at this; omega) (by simp)).trans ((hgrow.block _ (by simp; omega) hne).trans (Below.heap_alloc W _ _ hlt))
    exact ⟨hk2.from _, ⟨hb2, fun o ho => hsame.trans ho⟩, ⟨_, hv2, by simpa [B.ints] using hr2⟩, ⟨u, hsame.trans hu⟩, hB.trans hb2⟩
  case done =>
    rintro D xs W hD rfl ⟨⟨v, hv, hrow⟩, _, hB⟩ hK
    have hc := hv.cell
    gi_wp2
    refine ⟨by simp, .inl ⟨_, _, rfl, run_takeDeferred hK, ?_⟩⟩
    exact ⟨_, results_tmp rfl _ _ _, v, rfl, ownsRow_putObj hrow _ hK rfl, hB.grown (grownBy_putObj' W D _) hB.size (fun k e => by cases e; omega)⟩
end Go.Proofs.YtgkndhpolcnjbaaGreatDoor
namespace Go.Proofs.YtgkndhpolcnjbaaGreatDoor
open Go.RowKit
def bNot (x : BitVec 64) : BitVec 64 := ~~~x
namespace A
/-- A number as a set of squares. -/
def bs (n : Int) : BitVec 64 := BitVec.ofInt 64 n
/-- What is dropped. -/
def dropsK (c : Nat → Int) (t : Nat) (k : Nat) : List Mv :=
  if c (66 + 6 * t + k) = 0 then [] else (B.list (bAnd (bNot (S.all c)) (if k = 1 then 0x00ffffffffffff00#64 else bNot 0#64))).map fun s => (((s : Nat) : Int), ((s : Nat) : Int), 0, (k : Int), false)
def drops (c : Nat → Int) : List Mv := if c 78 ≤ 1 ∧ c 0 = 2 then (List.range 5).flatMap fun n => dropsK c (c 78).toNat (n + 1) else []
/-- The kind that moves. -/
def kind (c : Nat → Int) (m : Mv) : Int := if m.2.2.2.1 ≠ 0 then m.2.2.2.1 else P.kind (c (1 + m.1.toNat))
def cellF (m : Mv) : Nat := 1 + m.1.toNat
def cellT (m : Mv) : Nat := 1 + m.2.1.toNat
/-- Where king and rook go. -/
def kg (c : Nat → Int) (m : Mv) : Nat := 56 * (c 78).toNat + (if m.1 < m.2.1 then 6 else 2)
def rg (c : Nat → Int) (m : Mv) : Nat := 56 * (c 78).toNat + (if m.1 < m.2.1 then 5 else 3)
def men (c : Nat → Int) (m : Mv) (t : Int) : Nat → Int :=
  if m.2.2.2.2 = true then upd (upd (upd (upd c (cellF m) 0) (cellT m) 0) (1 + kg c m) (c (cellF m))) (1 + rg c m) (c (cellT m))
  else if m.2.2.2.1 ≠ 0 then upd (take c (c 78) m.2.2.2.1) (cellT m) (P.make (c 78) m.2.2.2.1)
  else if m.2.2.1 ≠ 0 then upd (upd (upd (if 0 ≤ t then upd c (1 + t.toNat) 0 else c) (cellF m) 0) (cellT m) (c (cellF m))) (cellT m) (P.make (c 78) m.2.2.1)
  else upd (upd (if 0 ≤ t then upd c (1 + t.toNat) 0 else c) (cellF m) 0) (cellT m) (c (cellF m))
def mark (c : Nat → Int) (s : Int) : Bool := bit (bs (c 65)) s.toNat
def unmark (q : Nat → Int) (s : Int) : Nat → Int := upd q 65 (U (bAndn (bs (q 65)) (B.one s)))
def domark (q : Nat → Int) (s : Int) : Nat → Int := upd q 65 (U (bOr (bs (q 65)) (B.one s)))
def takenKind (c : Nat → Int) (t : Int) : Int := if mark c t = true ∧ c (1 + t.toNat) ≠ 0 then 1 else P.kind (c (1 + t.toNat))
def pocketT (c q : Nat → Int) (t : Int) : Nat → Int := if 0 ≤ t then unmark (add q (q 78) (takenKind c t)) t else q
def pocket (c q : Nat → Int) (m : Mv) (t : Int) : Nat → Int :=
  if q 0 ≠ 2 ∨ m.2.2.2.1 ≠ 0 then q
  else if m.2.2.2.2 = true then (if mark c m.2.1 = true then domark (unmark q m.2.1) (rg c m) else q)
  else if m.2.2.1 ≠ 0 ∨ mark c m.1 = true then domark (unmark (pocketT c q t) m.1) m.2.1 else unmark (pocketT c q t) m.1
def blown (q : Nat → Int) (s : Int) : BitVec 64 := bOr (bAndn (bAndn (bAnd (R.king s) (S.all q)) (S.of q 0 1)) (S.of q 1 1)) (B.one s)
def wipe (q : Nat → Int) : List Nat → Nat → Int
  | [] => q
  | s :: l => wipe (upd q (1 + s) 0) l
def blow (q : Nat → Int) (m : Mv) (t : Int) : Nat → Int := if q 0 ≠ 3 ∨ t < 0 then q else wipe q (B.list (blown q m.2.1))
/-- A right is gone. -/
def gone (q : Nat → Int) (m : Mv) (t : Int) (col side : Nat) : Bool :=
  let f := q (79 + 2 * col + side)
  decide (0 ≤ f) && (decide (f ≤ 7) && (t == 56 * col + f || (m.2.2.2.1 == 0 && m.1 == 56 * col + f) || decide (S.find q col 6 < 0) || (S.find q col 6 / 8 != 7 * col) || (q (1 + (56 * col + f).toNat) != P.make col 4)))
def rights0 (c q : Nat → Int) (m : Mv) : Nat → Int := if kind c m = 6 ∧ m.2.2.2.1 = 0 then upd (upd q (79 + 2 * (q 78).toNat) (-1)) (80 + 2 * (q 78).toNat) (-1) else q
def rights1 (q : Nat → Int) (m : Mv) (t : Int) (col side : Nat) : Nat → Int := if gone q m t col side = true then upd q (79 + 2 * col + side) (-1) else q
def rights (c q : Nat → Int) (m : Mv) (t : Int) : Nat → Int :=
  rights1 (rights1 (rights1 (rights1 (rights0 c q m) m t 0 0) m t 0 1) m t 1 0) m t 1 1
/-- Which square was passed. -/
def passes (c q : Nat → Int) (m : Mv) : Prop :=
  kind c m = 1 ∧ m.2.2.2.1 = 0 ∧ (m.2.1 - m.1 = 16 ∨ m.1 - m.2.1 = 16) ∧ (m.1 / 8 = 7 * q 78 + 1 ∨ m.1 / 8 = 7 * q 78 - 1) ∧ bAnd (R.pawn (q 78) ((m.1 + m.2.1) / 2)) (S.of q (1 - q 78) 1) ≠ 0#64
instance (c q : Nat → Int) (m : Mv) : Decidable (passes c q m) := by unfold passes; infer_instance
def pass (c q : Nat → Int) (m : Mv) : Nat → Int := if passes c (upd q 83 (-1)) m then upd (upd q 83 (-1)) 83 ((m.1 + m.2.1) / 2) else upd q 83 (-1)
def more (n : Int) : Int := if 10000 ≤ n then n else n + 1
def clocks (c q : Nat → Int) (m : Mv) (t : Int) : Nat → Int :=
  let h := upd q 86 (if kind c m = 1 ∨ 0 ≤ t then 0 else more (q 86))
  if q 78 = 1 then upd h 87 (more (q 87)) else h
def turn0 (q : Nat → Int) : Nat → Int := upd q 78 (1 - q 78)
def turn (q : Nat → Int) : Nat → Int :=
  if q 0 = 5 ∧ q (84 + (q 78).toNat) < 3 ∧ K.check (turn0 q) (1 - q 78) = true then upd (turn0 q) (84 + (q 78).toNat) (q (84 + (q 78).toNat) + 1) else turn0 q
/-- The position behind a move. -/
def after (c : Nat → Int) (m : Mv) (t : Int) : Nat → Int :=
  turn (clocks c (pass c (rights c (blow (pocket c (men c m t) m t) m t) m t) m) m t)
end A
end Go.Proofs.YtgkndhpolcnjbaaGreatDoor
namespace Go.Proofs.YtgkndhpolcnjbaaGreatDoor
open Go.RowKit Go.Sort
attribute [local go_sem] Oper.semAt_some
theorem A.kind_0 (c : Nat → Int) (F : Nat) (g p : Int) (ca : Bool) (t : Int) (h : t = P.kind (c (1 + F))) : A.kind c ((F : Int), g, p, 0, ca) = t := by
  unfold A.kind; rw [if_neg (by simp), h]; rfl
set_option maxRecDepth 100000 in
set_option maxHeartbeats 1000000 in
theorem mkind_any (q c : Nat → Int) (F : Nat) (g p d : Int) (ca : Bool) (t : Int) (b : Nat) (w : World) (hM : A.MvAt w b q c ((F : Int), g, p, d, ca) t) (hF : F < 64) (hc : BdOk c) :
    Calls Tryz.prog 134 #[.pointer (some ⟨b, 0, none⟩)] w fun e w' => e = .returned (.int .u8 (A.kind c ((F : Int), g, p, d, ca))) ∧ Below w.heap.size w w' := by
  have h3 : w.cell? ⟨b, 179, none⟩ = some (.int .u8 d) := hM.atm 3 _ rfl
  have h0 : w.cell? ⟨b, 176, none⟩ = some (.int .i8 (F : Int)) := hM.atm 0 _ rfl
  have hb : w.cell? ⟨b, 89 + F, none⟩ = some (.int .u8 (c (1 + F))) := by
    have := hM.atc (1 + F) (by omega) .u8 (pk_board hF)
    rwa [← Nat.add_assoc] at this
  by_cases hd : d = 0
  · have d1 : decide (d = 0) = true := decide_eq_true hd
    have E := Lib.hid (show A.kind c ((F : Int), g, p, d, ca) = P.kind (c (1 + F)) by rw [hd]; exact A.kind_0 c F g p ca _ rfl)
    obtain ⟨x0, x1⟩ := hc F hF
    have i1 : (F : Int) < 64 := by omega
    go_enter Tryz.func134, Tryz.ntmps134
    go_wp2
    go_quiet ((go_at_call 70; exact quiet_same (kind_any _ _ x0 x1)))
    go_wp2
    go_ret
    exact ⟨ret_int E.out.symm, M.below_drew (Below.refl _ _) _⟩
  · have d1 : decide (d = 0) = false := decide_eq_false hd
    have E := Lib.hid (show A.kind c ((F : Int), g, p, d, ca) = d by unfold A.kind; rw [if_pos hd])
    go_enter Tryz.func134, Tryz.ntmps134
    go_wp2
    go_ret
    exact ⟨ret_int E.out.symm, Below.refl _ _⟩
theorem more_any (n : Int) (w : World) (h0 : -9223372036854775808 ≤ n) (h1 : n ≤ 9223372036854775807) :
    Calls Tryz.prog 136 #[.int .i64 n] w fun e w' => e = .returned (.int .i64 (A.more n)) ∧ w = w' := by
  by_cases h : 10000 ≤ n
  · have d1 : decide (10000 ≤ n) = true := decide_eq_true h
    have E := Lib.hid (show A.more n = n by unfold A.more; rw [if_pos h])
    go_enter Tryz.func136, Tryz.ntmps136
    go_wp2
    go_ret
    exact ⟨ret_int E.out.symm, rfl⟩
  · have d1 : decide (10000 ≤ n) = false := decide_eq_false h
    have E := Lib.hid (show A.more n = n + 1 by unfold A.more; rw [if_neg h])
    have hw : IntKind.i64.wrap (n + 1) = n + 1 := by rw [IntKind.wrap_i64]; omega
    go_enter Tryz.func136, Tryz.ntmps136
    go_wp2
    go_ret
    exact ⟨ret_int E.out.symm, rfl⟩
end Go.Proofs.YtgkndhpolcnjbaaGreatDoor
namespace Go.Proofs.YtgkndhpolcnjbaaGreatDoor
open Go.RowKit Go.Sort
namespace A
def dmv (k : Nat) (s : Nat) : Mv := ((s : Int), (s : Int), 0, (k : Int), false)
def dsq (c : Nat → Int) (k s : Nat) : List Mv := if P.kind (c (1 + s)) ≠ 0 ∨ (k = 1 ∧ (s < 8 ∨ 55 < s)) then [] else [dmv k s]
def drow (c : Nat → Int) (k : Nat) : Nat → List Mv
  | 0 => []
  | n + 1 => drow c k n ++ dsq c k n
def drowP (c : Nat → Int) (t k : Nat) : List Mv := if c (66 + 6 * t + k) = 0 then [] else drow c k 64
/-- What the first n kinds give. -/
def dall (c : Nat → Int) (t : Nat) : Nat → List Mv
  | 0 => []
  | n + 1 => dall c t n ++ drowP c t (n + 1)
theorem drow_len (c : Nat → Int) (k : Nat) : ∀ n, (drow c k n).length ≤ n
  | 0 => Nat.le_refl _
  | n + 1 => by
    have := drow_len c k n
    rw [drow, List.length_append]
    unfold dsq
    split <;> simp <;> omega
theorem drowP_len (c : Nat → Int) (t k : Nat) : (drowP c t k).length ≤ 64 := by
  unfold drowP
  split
  · simp
  · exact drow_len c k 64
theorem dall_len (c : Nat → Int) (t : Nat) : ∀ n, (dall c t n).length ≤ 64 * n
  | 0 => Nat.le_refl _
  | n + 1 => by
    have := dall_len c t n
    have := drowP_len c t (n + 1)
    rw [dall, List.length_append]
    omega
def dmask (k : Nat) : BitVec 64 := if k = 1 then 0x00ffffffffffff00#64 else bNot 0#64
theorem mask_tab : ∀ s : Fin 64, bit 0x00ffffffffffff00#64 s.val = decide (¬ (s.val < 8 ∨ 55 < s.val)) ∧ bit (bNot 0#64) s.val = true := by decide +kernel
theorem isB_kind (x : Int) (h0 : 0 ≤ x) (h1 : x ≤ 255) : P.isB x = (P.kind x != 0) := all8 (fun x => P.isB x = (P.kind x != 0)) (by decide +kernel) x h0 h1
theorem bit_not (x : BitVec 64) (n : Nat) (hn : n < 64) : bit (bNot x) n = !bit x n := by
  unfold bit bNot
  rw [BitVec.getLsbD_not]
  simp [hn]
def where' (c : Nat → Int) (k : Nat) : BitVec 64 := bAnd (bNot (S.all c)) (dmask k)
theorem where_sq (c : Nat → Int) (k s : Nat) (hc : BdOk c) (hs : s < 64) : (if bit (where' c k) s = true then [dmv k s] else []) = dsq c k s := by
  obtain ⟨x0, x1⟩ := hc s hs
  obtain ⟨h1, h2⟩ := mask_tab ⟨s, hs⟩
  unfold where' dmask
  rw [bit_and, bit_not _ _ hs, bit_all c s hs, isB_kind _ x0 x1]
  unfold dsq
  by_cases hk : k = 1
  · rw [if_pos hk, h1]
    by_cases h : P.kind (c (1 + s)) = 0 <;> by_cases h' : s < 8 ∨ 55 < s <;> simp [h, h', hk]
  · rw [if_neg hk, h2]
    by_cases h : P.kind (c (1 + s)) = 0 <;> simp [h, hk]
theorem map_row (p : Nat → Bool) (c : Nat → Int) (k : Nat) (h : ∀ s, s < 64 → (if p s = true then [dmv k s] else []) = dsq c k s) : ∀ n, n ≤ 64 → ((List.range n).filter p).map (dmv k) = drow c k n
  | 0, _ => rfl
  | n + 1, hn => by
    rw [List.range_succ, List.filter_append, List.map_append, map_row p c k h n (by omega), drow, ← h n (by omega)]
    congr 1
    by_cases e : p n = true <;> simp [e]
theorem drops_row (c : Nat → Int) (t k : Nat) (hc : BdOk c) : dropsK c t k = drowP c t k := by
  unfold dropsK drowP
  split
  · rfl
  · exact map_row _ c k (fun s hs => where_sq c k s hc hs) 64 (Nat.le_refl _)
theorem drops_all (c : Nat → Int) (t : Nat) (hc : BdOk c) : ∀ n, ((List.range n).flatMap fun n => dropsK c t (n + 1)) = dall c t n
  | 0 => rfl
  | n + 1 => by
    rw [List.range_succ, List.flatMap_append, drops_all c t hc n, dall, ← drops_row c t (n + 1) hc]
    simp
theorem drops_eq (c : Nat → Int) (hc : BdOk c) : drops c = if c 78 ≤ 1 ∧ c 0 = 2 then dall c (c 78).toNat 5 else [] := by
  unfold drops
  split
  · exact drops_all c _ hc 5
  · rfl
theorem drop_mem (c : Nat → Int) (m : Mv) (h : m ∈ drops c) : c 0 = 2 ∧ c 78 ≤ 1 ∧ ∃ k s : Nat, 1 ≤ k ∧ k ≤ 5 ∧ s < 64 ∧ m = dmv k s := by
  unfold drops at h
  split at h
  · rename_i hh
    obtain ⟨n, hn, h⟩ := List.mem_flatMap.1 h
    have hn := List.mem_range.1 hn
    unfold dropsK at h
    split at h
    · cases h
    · obtain ⟨s, hs, rfl⟩ := List.mem_map.1 h
      unfold B.list at hs
      exact ⟨hh.2, hh.1, n + 1, s, by omega, by omega, List.mem_range.1 (List.mem_filter.1 hs).1, rfl⟩
  · cases h
end A
end Go.Proofs.YtgkndhpolcnjbaaGreatDoor
