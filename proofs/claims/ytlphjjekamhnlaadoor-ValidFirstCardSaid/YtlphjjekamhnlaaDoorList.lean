/- The program's package bits: List: the squares of a set, in order. -/
import Derived.Test.YtlphjjekamhnlaaDoorRoundW
import Derived.Test.YtlphjjekamhnlaaDoorDocB
import Derived.RangeFuncBox
import Derived.RangeFuncLeaves
import Derived.OwnWalkIn
import Derived.TacticsInMore
import Derived.LoopNIn
import Derived.LoopIn
import Derived.Test.YtlphjjekamhnlaaDoorBaseC
import Derived.Test.YtlphjjekamhnlaaDoorRow
import Derived.Maps.AppendAt
namespace Go.Proofs.YtlphjjekamhnlaaDoor
open Go.RowKit Go.Sort
attribute [local go_sem] Oper.semAt_some

/-- A number without its least bit. -/
theorem nat_low (N n : Nat) (hn : N.testBit n = true) (hlo : ∀ m, m < n → N.testBit m = false) (j : Nat) : (N &&& (N - 1)).testBit j = (N.testBit j && decide (j ≠ n)) := by
  have hmod : N % 2 ^ n = 0 := Nat.eq_of_testBit_eq (fun i => by
    rw [Nat.testBit_mod_two_pow, Nat.zero_testBit]
    by_cases hi : i < n
    · rw [hlo i hi, Bool.and_false]
    · simp [hi])
  have hN : N = 2 ^ n * (N / 2 ^ n) := by have := Nat.div_add_mod N (2 ^ n); omega
  generalize N / 2 ^ n = M at hN
  have hb : ∀ i, N.testBit i = (decide (n ≤ i) && M.testBit (i - n)) := fun i => by rw [hN, Nat.testBit_two_pow_mul]
  have hM : M % 2 = 1 := by
    have := hb n
    rw [hn, Nat.sub_self, Nat.testBit_zero] at this
    simpa using this.symm
  obtain ⟨q, hq⟩ : ∃ q, M = 2 * q + 1 := ⟨M / 2, by omega⟩
  have hp := Nat.two_pow_pos n
  have h1 : N - 1 = 2 ^ n * (2 * q) + (2 ^ n - 1) := by
    rw [hN, hq, Nat.mul_add]
    omega
  rw [Nat.testBit_and, h1, Nat.testBit_two_pow_mul_add _ (by omega)]
  by_cases hj : j < n
  · rw [hlo j hj, Bool.false_and, Bool.false_and]
  · rw [if_neg hj, hb j, hq]
    by_cases hjn : j = n
    · subst hjn
      simp
    · obtain ⟨i, hi⟩ : ∃ i, j - n = i + 1 := ⟨j - n - 1, by omega⟩
      rw [hi, Nat.testBit_succ, Nat.testBit_succ, show (2 * q + 1) / 2 = q by omega, show 2 * q / 2 = q by omega]
      simp [hjn]
namespace B
/-- The squares of a set; a set without its least square. -/
def list (b : BitVec 64) : List Nat := (List.range 64).filter fun j => bit b j
def pred (b : BitVec 64) : BitVec 64 := b - 1#64
def less (b : BitVec 64) : BitVec 64 := bAnd b (pred b)
theorem pred_nat (b : BitVec 64) (h : b ≠ 0#64) : (pred b).toNat = b.toNat - 1 := by
  have h0 : b.toNat ≠ 0 := fun e => h (BitVec.eq_of_toNat_eq (by simpa using e))
  have := b.isLt
  unfold pred
  rw [BitVec.toNat_sub]
  simp
  omega
theorem pred_val (b : BitVec 64) (h : b ≠ 0#64) : IntKind.u64.wrap (U b - 1) = U (pred b) := by
  have h0 : b.toNat ≠ 0 := fun e => h (BitVec.eq_of_toNat_eq (by simpa using e))
  have := bv_lt b
  unfold U
  rw [pred_nat b h, IntKind.wrap_u64]
  omega
theorem bit_less (b : BitVec 64) (h : b ≠ 0#64) (n : Nat) (hn : bit b n = true) (hlo : ∀ m, m < n → bit b m = false) (j : Nat) : bit (less b) j = (bit b j && decide (j ≠ n)) := by
  unfold less
  rw [bit_and, bit_test, bit_test, pred_nat b h, ← Nat.testBit_and]
  exact nat_low b.toNat n hn hlo j
theorem filt (p q : Nat → Bool) (n : Nat) (hp : p n = true) (hlo : ∀ j, j < n → p j = false) (hq : ∀ j, q j = (p j && decide (j ≠ n))) :
    ∀ m k, k ≤ n → n < k + m → (List.range' k m).filter p = n :: (List.range' k m).filter q := by
  intro m
  induction m with
  | zero => intro k h1 h2; omega
  | succ m ih =>
    intro k h1 h2
    rw [List.range'_succ]
    by_cases e : k = n
    · subst e
      have hqk : q k = false := by rw [hq]; simp
      rw [List.filter_cons_of_pos hp, List.filter_cons_of_neg (by rw [hqk]; simp)]
      congr 1
      apply List.filter_congr
      intro j hj
      have := List.mem_range'.1 hj
      obtain ⟨i, _, e⟩ := this
      rw [hq]
      have : j ≠ k := by omega
      simp [this]
    · have hpk := hlo k (by omega)
      have hqk : q k = false := by rw [hq, hpk]; rfl
      rw [List.filter_cons_of_neg (by rw [hpk]; simp), List.filter_cons_of_neg (by rw [hqk]; simp)]
      exact ih (k + 1) (by omega) (by omega)
theorem list_cons (b : BitVec 64) (h : b ≠ 0#64) (n : Nat) (h64 : n < 64) (hn : bit b n = true) (hlo : ∀ m, m < n → bit b m = false) : list b = n :: list (less b) := by
  unfold list
  rw [List.range_eq_range']
  exact filt _ _ n hn hlo (bit_less b h n hn hlo) 64 0 (by omega) (by omega)
theorem list_zero : list 0#64 = [] := by
  unfold list
  rw [List.filter_eq_nil_iff]
  intro j _
  rw [bit_zero]; simp
theorem list_len (b : BitVec 64) : (list b).length ≤ 64 := by
  have := List.length_filter_le (fun j => bit b j) (List.range 64)
  unfold list
  simpa using this
theorem less_lt (b : BitVec 64) (h : b ≠ 0#64) : (less b).toNat < b.toNat := by
  have h0 : b.toNat ≠ 0 := fun e => h (BitVec.eq_of_toNat_eq (by simpa using e))
  unfold less bAnd
  rw [BitVec.toNat_and, pred_nat b h]
  have : b.toNat &&& (b.toNat - 1) ≤ b.toNat - 1 := Nat.and_le_right
  omega
end B
/-- What the iterator itself writes: its variable, which stays one. -/
def WrB (Bb : Nat) (W W' : World) : Prop := Put Bb W W' ∧ ∃ u, Boxed W' Bb 23 u
/-- What a round keeps: all that lay below, and the iterator's own variable. -/
def KpB (B0 Bb : Nat) (W W' : World) : Prop := Below B0 W W' ∧ ∀ o, W.heap[Bb]? = some o → W'.heap[Bb]? = some o

set_option maxRecDepth 100000 in
set_option maxHeartbeats 2000000 in
theorem all1_tells (n l B0 Bb : Nat) (b : BitVec 64) (J : List Nat → World → Prop) (W : World) (hn : 1 ≤ n) (hJW : ∀ s W W', J s W → WrB Bb W W' → J s W') (h0 : J [] W)
    (hB : Boxed W Bb 23 (.int .u64 (U b))) (hB0 : B0 ≤ Bb) (hT : ∀ W', Below B0 W W' → Tb W')
    (hY : ∀ (pre : List Nat) (x : Nat) (W1 : World), J pre W1 → pre.length < 64 ∧ x < 64 → YieldAt Fence.wide (n - 1) Tryd.prog l #[.int .i64 (x : Int)] W1 fun e W' => e = .returned (.bool true) ∧ J (pre ++ [x]) W' ∧ KpB B0 Bb W1 W') :
    CallsIn Fence.wide n Tryd.prog 114 #[.func (.yield l) #[] #[], .pointer (some ⟨Bb, 0, none⟩)] W fun e W' => (∃ v, e = .returned v) ∧ ∃ xs, xs = B.list b ∧ J xs W' := by
  refine callsIn_of_wp Tryd.func114 rfl trivial ?_ rfl
  simp only [Tryd.ntmps114, List.size_toArray, List.length_cons, List.length_nil, Nat.reduceAdd, Nat.reduceSub, Array.replicate_succ, Array.replicate_zero, List.push_toArray, List.append_toArray, List.nil_append, List.cons_append]
  have HY := Lib.hid hY
  have HT := Lib.hid hT
  have H0 := Lib.hid (And.intro h0 hB)
  clear hY hT h0 hB
  gi_wp2
  gi_loopw [] (fun wr => ∃ (pre : List Nat) (r : BitVec 64), J pre wr ∧ Boxed wr Bb 23 (.int .u64 (U r)) ∧ Hid (pre ++ B.list r = B.list b) ∧ Below B0 W wr)
    (fun wr => match wr.cell? ⟨Bb, 0, none⟩ with | some v => (intOf v).toNat | none => 0)
  case atStart => exact ⟨[], b, H0.out.1, H0.out.2, Lib.hid rfl, Below.refl _ _⟩
  case round =>
    obtain ⟨pre, r, hj, hb, HL, hbr⟩ := hrel
    have hc := hb.cell
    have hT1 := HT.out _ hbr
    have hz := U_zero r
    by_cases hr : r = 0#64
    · subst hr
      have hL := HL.out
      rw [B.list_zero, List.append_nil] at hL
      have HL2 := Lib.hid hL
      clear hL hz
      gi_wp2
      go_end0
      exact ⟨⟨_, rfl⟩, pre, HL2.out, hj⟩
    · obtain ⟨x, hx, h64, hbit, hlo⟩ := first_spec r hr
      have HX := Lib.hid (B.list_cons r hr x h64 hbit hlo)
      have hne : (U r != 0) = true := by simp [bne, hz, hr]
      have hs := B.pred_val r hr
      have HLt := Lib.hid (B.less_lt r hr)
      have HF := Lib.hid (first_any r wr hT1)
      rw [hx] at HF
      clear hbit hlo hz hr hx
      have hpl : pre.length < 64 := by
        have h := congrArg List.length HL.out
        have h2 := B.list_len b
        rw [HX.out, List.length_append, List.length_cons] at h
        omega
      have hyy := HY.out pre x wr hj ⟨hpl, h64⟩
      clear hpl
      obtain ⟨fn, tmps, assign, body, hy, hR⟩ := hyy
      change (Instr.yield l #[.int .i64 (x : Int)]).run _ _ = _ at hy
      gi_wp2_with (first
        | (refine ⟨trivial, ?_⟩; gi_at_call 108; refine (callsIn_wide.2 HF.out).mono ?_; rintro e w' ⟨rfl, rfl⟩)
        | (gi_at_call 108; refine (callsIn_wide.2 HF.out).mono ?_; rintro e w' ⟨rfl, rfl⟩))
      refine hR.mono ?_
      rintro e W3 ⟨rfl, hJ3, hk3⟩
      have hb3 : Boxed W3 Bb 23 (.int .u64 (U r)) := hk3.2 _ hb
      have hc3 := hb3.cell
      have hf3 := hb3.frozen
      have HZ := Lib.hid (show J (pre ++ [x]) (W3.setCell ⟨Bb, 0, none⟩ (.int .u64 (U (bAnd r (B.pred r))))) ∧ Boxed (W3.setCell ⟨Bb, 0, none⟩ (.int .u64 (U (bAnd r (B.pred r))))) Bb 23 (.int .u64 (U (B.less r))) ∧ Below B0 W (W3.setCell ⟨Bb, 0, none⟩ (.int .u64 (U (bAnd r (B.pred r))))) from
        ⟨hJW _ _ _ hJ3 ⟨put_setCell _ _ _ _, _, hb3.set _⟩, hb3.set _, (hbr.trans hk3.1).setCell (p := ⟨Bb, 0, none⟩) hB0 _⟩)
      have Hc := Lib.hid hc
      clear hJ3 hk3 hb3 hbr hj hb hc
      gi_wp2
      go_roundw
      case rel => exact ⟨pre ++ [x], B.less r, HZ.out.1, HZ.out.2.1, Lib.hid (by rw [List.append_assoc]; have h := HL.out; rw [HX.out] at h; exact h), HZ.out.2.2⟩
      case measure =>
        rw [HZ.out.2.1.cell, Hc.out]
        have := HLt.out
        simp [intOf, U]
        omega
theorem ball_any (b : BitVec 64) (w : World) : Calls Tryd.prog 84 #[.int .u64 (U b)] w fun e w' => e = .returned (.func (.func 114) #[] #[.pointer (some ⟨w.heap.size, 0, none⟩)]) ∧ w.alloc (.cells #[.int .u64 (U b)] 23) = w' := by
  go_enter Tryd.func84, Tryd.ntmps84
  go_wp2
  go_ret
  exact ⟨rfl, rfl⟩
theorem Tryd.info_intL : (Tryd.prog.info? 3).map (fun i => (i.zero, i.size, i.bytes)) = some (some (.int .i64 0), 1, 8) := by kernel_rfl
def B.ints (l : List Nat) : List Value := l.map fun (n : Nat) => Value.int .i64 (n : Int)
set_option maxRecDepth 100000 in
set_option maxHeartbeats 2000000 in
theorem blist_any (b : BitVec 64) (w : World) (hT : Tb w) :
    Calls Tryd.prog 53 #[.int .u64 (U b)] w fun e w' => ∃ v, e = .returned v ∧ w'.ownsRow w.heap.size 3 1 v (B.list b).length (B.ints (B.list b)) ∧ Below w.heap.size w w' := by
  have HT := Lib.hid hT
  clear hT
  refine (callsIn_wide (n := 6)).1 ?_
  refine callsIn_of_wp_marks Tryd.func53 rfl trivial ?_ rfl
  simp only [Tryd.ntmps53, List.size_toArray, List.length_cons, List.length_nil, Nat.reduceAdd, Nat.reduceSub, Array.replicate_succ, Array.replicate_zero, List.push_toArray, List.append_toArray, List.nil_append, List.cons_append]
  gi_wp2_with (first
    | (refine ⟨trivial, ?_⟩; gi_at_call 84; refine (callsIn_wide.2 (ball_any _ _)).mono ?_; rintro e w' ⟨rfl, rfl⟩)
    | (gi_at_call 84; refine (callsIn_wide.2 (ball_any _ _)).mono ?_; rintro e w' ⟨rfl, rfl⟩))
  have bO := Boxed.new w 82 (.slice none 0 0)
  have bB := Boxed.new (w.alloc (.cells #[.slice none 0 0] 82)) 23 (.int .u64 (U b))
  rw [World.size_alloc] at bB
  have hB0 : Below w.heap.size w ((w.alloc (.cells #[.slice none 0 0] 82)).alloc (.cells #[.int .u64 (U b)] 23)) := ((Below.refl _ w).alloc (Nat.le_refl _) _).alloc (by simp) _
  have hsz : ((w.alloc (.cells #[.slice none 0 0] 82)).alloc (.cells #[.int .u64 (U b)] 23)).heap.size = w.heap.size + 2 := by simp
  replace bO := bO.alloc (.cells #[.int .u64 (U b)] 23)
  obtain ⟨W0, hW0⟩ : ∃ W0, ((w.alloc (.cells #[.slice none 0 0] 82)).alloc (.cells #[.int .u64 (U b)] 23)) = W0 := ⟨_, rfl⟩
  rw [hW0] at bO bB hB0 hsz ⊢
  clear hW0
  obtain ⟨i0, hi, hz0, hz1, hz2⟩ := info_parts Tryd.info_intL
  refine rangeFunc_tellsW (gf := 114) (lb := #[.pointer (some ⟨w.heap.size + 1, 0, none⟩)]) (WrB (w.heap.size + 1)) (fun W W' k h hk => h.1.block k (by omega)) rfl (enters_of Tryd.func114 (by kernel_rfl) rfl) (fun x : Nat => #[.int .i64 (x : Int)]) (fun _ => rfl)
    (fun pre W => (∃ v, Boxed W w.heap.size 82 v ∧ W.ownsRow w.heap.size 3 1 v pre.length (B.ints pre)) ∧ (∃ u, Boxed W (w.heap.size + 1) 23 u) ∧ Below w.heap.size w W)
    (fun pre x _ => pre.length < 64 ∧ x < 64) (KpB w.heap.size (w.heap.size + 1))
    (fun x a' _ => a' = { tmps := #[.int .u64 (U b), undef, .slice none 0 0, .pointer (some ⟨w.heap.size, 0, none⟩), .int .i64 (x : Int), .int .u64 (U b), .func (.func 114) #[] #[.pointer (some ⟨w.heap.size + 1, 0, none⟩)], .int .i64 (x : Int), undef, undef, undef, undef, undef], defers := [] })
    (fun xs => xs = B.list b) ?wr ?gr ?pu (fun _ _ _ _ _ _ h _ _ _ => h) (fun _ _ _ _ _ _ h _ _ _ => h) (fun h k => ⟨h.1.trans k.1, fun o ho => k.2 o (h.2 o ho)⟩) ?kp (fun W => ⟨Below.refl _ _, fun _ h => h⟩) ?iter ?start ?assign ?body ?done
  case wr =>
    rintro pre W W' ⟨⟨v, hv, hr⟩, ⟨u, hu⟩, hb⟩ ⟨hP, hu'⟩
    exact ⟨⟨v, (hP.block _ (by omega)).trans hv, hP.owns hr (hu.not_row (by decide) hr).symm⟩, hu', hP.below hb (by omega)⟩
  case gr =>
    rintro pre W W' ⟨⟨v, hv, hr⟩, ⟨u, hu⟩, hb⟩ hb'
    exact ⟨⟨v, (hb'.block _ hv.lt).trans hv, hr.kept (below_grown hb') (by cases v.ownBlock <;> simp)⟩, ⟨u, (hb'.block _ hu.lt).trans hu⟩, below_next hb hb'⟩
  case pu =>
    rintro pre W l o o' ⟨⟨v, hv, hr⟩, ⟨u, hu⟩, hb⟩ hl ho hn
    have ne : ∀ {B : Nat} {t : TypeId} {x : Value}, Boxed W B t x → some B ≠ some l := fun hx e => by cases e; rw [show W.heap[_]? = _ from hx] at ho; cases ho; cases hn
    exact ⟨⟨v, hv.kept (grownBy_putObj' W l o') (ne hv), ownsRow_putObj hr o' ho hn⟩, ⟨u, hu.kept (grownBy_putObj' W l o') (ne hu)⟩, hb.grown (grownBy_putObj' W l o') hb.size (fun k e => by cases e; omega)⟩
  case kp =>
    rintro W W1 l o o' h hl ho hn
    exact ⟨h.1.grown (grownBy_putObj' W1 l o') (by have := (Array.getElem?_eq_some_iff.1 ho).1; omega) (fun k e => by cases e; omega), fun o2 h2 => (World.putObj_heap_other (by omega)).trans (h.2 o2 h2)⟩
  case iter =>
    intro l J W hW _ hJW h0 hY
    exact all1_tells 5 l w.heap.size (w.heap.size + 1) b J W (by omega) hJW h0 ((hW.block _ bB.lt).trans bB) (Nat.le_succ _) (fun W' hb => tb_below HT.out (hB0.trans ((hW.mono (by omega)).trans hb))) hY
  case start => exact ⟨⟨_, bO, World.ownsRow_nil _ _ _ _⟩, ⟨_, bB⟩, hB0⟩
  case assign =>
    intro l pre x W Kk hI hx hK
    have HI := Lib.hid hI
    gi_wp2
    exact hK _ _ (K.KeepsFrom.of_below (Below.refl _ _)) ⟨Below.refl _ _, fun _ h => h⟩ HI.out hx rfl
  case body =>
    rintro l pre x a' W hl ⟨⟨v, hv, hrow⟩, ⟨u, hu⟩, hB⟩ ⟨hpl, hx⟩ rfl
    have hc := hv.cell
    have hne : some (w.heap.size + 1) ≠ v.ownBlock := hu.not_row (by decide) hrow
    gi_wp2_with (gi_at_builtin; refine wpListIn_append_own _ rfl _ _ 82 rfl w.heap.size 3 i0 (.int .i64 0) 1 8 Tryd.underlying82 hi hz0 hz1 hz2 rfl (by decide) _ _ _ rfl (hrow.alloc _) ⟨W.heap.size, 0, none⟩ 1 1 [.int .i64 x] rfl rfl (cell_one_new _ _ _) (by simp [Value.oneCell']) (by unfold maxLen; omega) (by omega) (by have := hB.size; simp; omega) ?_; intro v' w1 hown' hgrow _; obtain ⟨g', cap', rfl⟩ := ownsRow_succ hown'; obtain ⟨hv1, hv2, hr2, hk2, hb2⟩ := hv.appended (by decide) hrow hB.size (Nat.le_refl _) hown' hgrow; have hc1 := hv1.cell; have hf1 := hv1.frozen)
    have hlt := hu.lt
    have hsame : (w1.setCell ⟨w.heap.size, 0, none⟩ (.slice (some ⟨g', 0, none⟩) (pre.length + 1) cap')).heap[w.heap.size + 1]? = W.heap[w.heap.size + 1]? :=
      ((grownBy_setCell' w1 w.heap.size _).block _ (by have := hgrow.size; simp at this; omega) (by simp)).trans ((hgrow.block _ (by simp; omega) hne).trans (Below.heap_alloc W _ _ hlt))
    exact ⟨hk2.from _, ⟨hb2, fun o ho => hsame.trans ho⟩, ⟨_, hv2, by simpa [B.ints] using hr2⟩, ⟨u, hsame.trans hu⟩, hB.trans hb2⟩
  case done =>
    rintro D xs W hD rfl ⟨⟨v, hv, hrow⟩, _, hB⟩ hK
    have hc := hv.cell
    gi_wp2
    refine ⟨by simp, .inl ⟨_, _, rfl, run_takeDeferred hK, ?_⟩⟩
    exact ⟨_, results_tmp rfl _ _ _, v, rfl, ownsRow_putObj hrow _ hK rfl, hB.grown (grownBy_putObj' W D _) hB.size (fun k e => by cases e; omega)⟩
end Go.Proofs.YtlphjjekamhnlaaDoor
