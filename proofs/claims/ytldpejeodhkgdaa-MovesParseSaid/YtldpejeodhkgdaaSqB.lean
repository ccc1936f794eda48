/- The program's package squares: Of, Parse. -/
import Derived.Test.YtldpejeodhkgdaaSqA
import Derived.Test.YtldpejeodhkgdaaBox
import Derived.Lib.OthersKept
import Derived.Lib.RuneCount
namespace Go.Proofs.Ytldpejeodhkgdaa
open Go.RowKit Go.Sort

theorem Try.size_intS : (Try.prog.info? 3).map (·.size) = some 1 := by kernel_rfl
namespace Sq
/-- A file and a rank that make a square. -/
def isOf (f r : Int) : Bool := decide ((0 ≤ f ∧ f < 8) ∧ 0 ≤ r ∧ r < 8)
def ofV (f r : Int) : Value := if isOf f r then .tuple #[.int .i64 (8 * r + f), .bool true] else .tuple #[.int .i64 0, .bool false]
theorem dec_big (s : ByteArray) (i : Nat) (h : 128 ≤ (s.get! i).toNat) : 128 ≤ (Utf8.decode s i).1 := by
  unfold Utf8.decode
  simp only [Nat.add_zero]
  rw [if_neg (by omega)]
  repeat' split
  all_goals (try (rename_i h2; simp only [Bool.and_eq_true, decide_eq_true_eq, ge_iff_le] at h2))
  all_goals (try simp only [Utf8.runeError])
  all_goals omega
theorem dec_le (s : ByteArray) (i : Nat) : (Utf8.decode s i).1 ≤ 5000000 := by
  unfold Utf8.decode
  simp only [Nat.add_zero]
  repeat' split
  all_goals (try simp only [Utf8.runeError])
  all_goals omega
theorem dec_wd (s : ByteArray) (i : Nat) : 1 ≤ (Utf8.decode s i).2 ∧ (Utf8.decode s i).2 ≤ 4 := by
  unfold Utf8.decode
  simp only [Nat.add_zero]
  repeat' split
  all_goals (first | omega | (constructor <;> decide))
theorem dec_small (s : ByteArray) (i : Nat) (h : (s.get! i).toNat < 128) : Utf8.decode s i = ((s.get! i).toNat, 1) := by
  unfold Utf8.decode
  simp only [Nat.add_zero]
  rw [if_pos (by omega)]
theorem dec_last (s : ByteArray) (i : Nat) (hi : i + 1 = s.size) (h : 128 ≤ (s.get! i).toNat) : Utf8.decode s i = (65533, 1) := by
  unfold Utf8.decode
  simp only [Nat.add_zero]
  rw [if_neg (by omega)]
  have e : (decide (i + 1 < s.size)) = false := by simp; omega
  simp [e, Utf8.runeError]
end Sq
set_option maxHeartbeats 400000 in
theorem sqof_any (f r : Int) (w : World) (hf : -10000000 ≤ f ∧ f ≤ 10000000) (hr : -10000000 ≤ r ∧ r ≤ 10000000) : Calls Try.prog 37 #[.int .i64 f, .int .i64 r] w fun e w' => e = .returned (Sq.ofV f r) ∧ w = w' := by
  have h1 : IntKind.i64.wrap (8 * r) = 8 * r := by rw [IntKind.wrap_i64]; omega
  have h2 : IntKind.i64.wrap (8 * r + f) = 8 * r + f := by rw [IntKind.wrap_i64]; omega
  go_enter Try.func37, Try.ntmps37
  go_wp2
  all_goals
    go_ret2
    refine ⟨?_, rfl⟩
    unfold Sq.ofV Sq.isOf
    first | (rw [if_pos (by simp; omega)]; done) | (rw [if_neg (by simp; omega)]; done) | (rw [if_pos (by simp; omega)]; rfl) | (rw [if_neg (by simp; omega)]; rfl)

namespace Sq
/-- What Parse answers. -/
def Parsed (t : ByteArray) (n : Int) (ok : Bool) : Prop := (ok = true ∧ ∃ s : Nat, s < 64 ∧ n = (s : Int) ∧ t = text s) ∨ (ok = false ∧ n = 0 ∧ ∀ s, s < 64 → t ≠ text s)
/-- What the two cells hold at the end. -/
def Ends (t : ByteArray) (l0 l1 : Int) : Prop :=
  ((t.get! 0).toNat < 128 ∧ l0 = ((t.get! 0).toNat : Int) - 97 ∧ (((t.get! 1).toNat < 128 ∧ l1 = ((t.get! 1).toNat : Int) - 49) ∨ (128 ≤ (t.get! 1).toNat ∧ l1 = 65484))) ∨ (128 ≤ (t.get! 0).toNat ∧ 31 ≤ l0)
theorem two_of (t : ByteArray) (h2 : t.size = 2) : ∃ a b, t = ⟨#[a, b]⟩ := by
  obtain ⟨⟨l⟩⟩ := t
  match l, h2 with
  | [a, b], _ => exact ⟨a, b, rfl⟩
theorem get_two (a b : UInt8) : ByteArray.get! ⟨#[a, b]⟩ 0 = a ∧ ByteArray.get! ⟨#[a, b]⟩ 1 = b := ⟨rfl, rfl⟩
theorem parsed_of (t : ByteArray) (l0 l1 : Int) (h2 : t.size = 2) (h : Ends t l0 l1) : ∃ n ok, ofV l0 l1 = .tuple #[.int .i64 n, .bool ok] ∧ Parsed t n ok := by
  obtain ⟨a, b, rfl⟩ := two_of t h2
  unfold Ends at h
  rw [(get_two a b).1, (get_two a b).2] at h
  unfold ofV
  cases hi : isOf l0 l1 with
  | true =>
    unfold isOf at hi
    simp only [decide_eq_true_eq] at hi
    refine ⟨8 * l1 + l0, true, rfl, .inl ⟨rfl, (8 * l1 + l0).toNat, by omega, by omega, ?_⟩⟩
    have ha : 97 + (8 * l1 + l0).toNat % 8 = a.toNat := by omega
    have hb : 49 + (8 * l1 + l0).toNat / 8 = b.toNat := by omega
    unfold text
    rw [ha, hb, UInt8.ofNat_toNat, UInt8.ofNat_toNat]
  | false =>
    refine ⟨0, false, rfl, .inr ⟨rfl, rfl, fun s hs e => ?_⟩⟩
    unfold text at e
    injection e with e
    have e1 : a = UInt8.ofNat (97 + s % 8) := by have := congrArg (·[0]?) e; simpa using this
    have e2 : b = UInt8.ofNat (49 + s / 8) := by have := congrArg (·[1]?) e; simpa using this
    have ha : a.toNat = 97 + s % 8 := by rw [e1, UInt8.toNat_ofNat']; omega
    have hb : b.toNat = 49 + s / 8 := by rw [e2, UInt8.toNat_ofNat']; omega
    unfold isOf at hi
    simp only [decide_eq_false_iff_not] at hi
    omega
end Sq
theorem run_idx0 (w : World) : (Instr.index 67 (.agg #[.int .i64 97, .int .i64 49]) (.int .i64 0)).run Try.prog w = .ok (.int .i64 97) w := by kernel_rfl
theorem run_idx1 (w : World) : (Instr.index 67 (.agg #[.int .i64 97, .int .i64 49]) (.int .i64 1)).run Try.prog w = .ok (.int .i64 49) w := by kernel_rfl
theorem wpl_idx {P : Program} {ops : Array Oper} {rest : List Oper} {o : Oper} {a : Act} {w : World} {Q : Exit → Act → World → Prop} (hgd : o.guard = none) (T : TypeId) (x y : Operand) (ho : o.op = .index T x y) {vx vy v : Value} (hx : a.eval x = vx) (hy : a.eval y = vy)
    (hr : ∀ w, (Instr.index T vx vy).run P w = .ok v w) (h : wpList P ops Q rest (a.put o.dst v) w) : wpList P ops Q (o :: rest) a w := by
  refine wpList_plain hgd fun _ hK => ?_
  unfold Oper.wp execOp
  simp only [ho, hx, hy, Sem.run_bind, hr, Result.andThen_ok, Sem.run_pure]
  exact hK _ _ h
set_option maxRecDepth 100000 in
set_option maxHeartbeats 2000000 in
theorem sqparse_any (t : ByteArray) (w : World) : Calls Try.prog 21 #[.string t] w fun e w' => (∃ n ok, e = .returned (.tuple #[.int .i64 n, .bool ok]) ∧ Sq.Parsed t n ok) ∧ Below w.heap.size w w' := by
  by_cases h2 : t.size = 2
  · have hsI : ((t.size : Int) != 2) = false := by rw [h2]; rfl
    go_enter Try.func21, Try.ntmps21
    go_wp2
    have hsz : (w.alloc (Obj.cells #[Value.int IntKind.i64 0, Value.int IntKind.i64 0] 67)).heap.size = w.heap.size + 1 := by show (w.heap.push _).size = _; simp
    obtain ⟨W0, hW0⟩ : ∃ W0, ((w.alloc (Obj.cells #[Value.int IntKind.i64 0, Value.int IntKind.i64 0] 67)).iter t 0) = W0 := ⟨_, rfl⟩
    have hF : W0.heap[w.heap.size + 1]? = some (.stringIter t 0) ∧ RowAt W0 w.heap.size 67 #[.int .i64 0, .int .i64 0] ∧ Below w.heap.size w W0 := by
      rw [← hW0]
      have h1 := World.iter_heap (w.alloc (Obj.cells #[Value.int IntKind.i64 0, Value.int IntKind.i64 0] 67)) t 0
      rw [hsz] at h1
      exact ⟨h1, (RowAt.new w _ _).alloc _, ((Below.refl _ w).alloc (Nat.le_refl _) _).alloc (by rw [hsz]; omega) _⟩
    rw [hW0]
    clear hW0 hsz
    have H0 := Lib.hid hF
    have H2 := Lib.hid h2
    clear hF h2 hsI
    go_loopw [] (fun wr => ∃ (pos : Nat) (l0 l1 : Int), wr.heap[w.heap.size + 1]? = some (.stringIter t pos) ∧ RowAt wr w.heap.size 67 #[.int .i64 l0, .int .i64 l1] ∧ Below w.heap.size w wr ∧ (-10000000 ≤ l0 ∧ l0 ≤ 10000000) ∧ (-10000000 ≤ l1 ∧ l1 ≤ 10000000) ∧
        Hid ((pos = 0 ∧ l0 = 0 ∧ l1 = 0) ∨ (pos = 1 ∧ (((t.get! 0).toNat < 128 ∧ l0 = ((t.get! 0).toNat : Int) - 97) ∨ (128 ≤ (t.get! 0).toNat ∧ 31 ≤ l0)) ∧ l1 = 0) ∨ (2 ≤ pos ∧ Sq.Ends t l0 l1))) (fun wr => 10 - World.iterPos wr (w.heap.size + 1))
    case atStart => exact ⟨0, 0, 0, H0.out.1, H0.out.2.1, H0.out.2.2, by omega, by omega, Lib.hid (.inl ⟨rfl, rfl, rfl⟩)⟩
    case round =>
      obtain ⟨pos, l0, l1, hit, hR, hbr, hl0, hl1, HS⟩ := hrel
      have hls := hR.lt
      rcases HS.out with ⟨rfl, rfl, rfl⟩ | ⟨rfl, hA, rfl⟩ | ⟨hp, hE⟩
      · have hp2 : 0 < t.size := by rw [H2.out]; omega
        have hnx0 : ∀ ty, (Instr.next (.pointer (some ⟨w.heap.size + 1, 0, none⟩)) true ty).run Try.prog wr = _ := fun ty => Lib.run_next_any_at wr (w.heap.size + 1) t 0 ty hit hp2
        have hit2 := Lib.iterAt_heap wr (w.heap.size + 1) t 0 (0 + (Utf8.decode t 0).2) hit
        have hR2 : RowAt (wr.iterAt (w.heap.size + 1) t (0 + (Utf8.decode t 0).2)) w.heap.size _ _ := ⟨(Lib.iterAt_other wr (w.heap.size + 1) w.heap.size t _ (by omega)).trans hR.heap⟩
        have hb2 := Lib.below_iterAt hbr (k := w.heap.size + 1) (by omega) t (0 + (Utf8.decode t 0).2)
        have hle := Sq.dec_le t 0
        have hwd := Sq.dec_wd t 0
        have hbig := Sq.dec_big t 0
        have hsm := Sq.dec_small t 0
        skip
        obtain ⟨r, hr⟩ : ∃ r, (Utf8.decode t 0).1 = r := ⟨_, rfl⟩
        obtain ⟨d, hd⟩ : ∃ d, (Utf8.decode t 0).2 = d := ⟨_, rfl⟩
        have hst : (0 + d = 0 ∧ (r : Int) - 97 = 0 ∧ (0 : Int) = 0) ∨ (0 + d = 1 ∧ (((t.get! 0).toNat < 128 ∧ (r : Int) - 97 = ((t.get! 0).toNat : Int) - 97) ∨ (128 ≤ (t.get! 0).toNat ∧ 31 ≤ (r : Int) - 97)) ∧ (0 : Int) = 0) ∨ (2 ≤ 0 + d ∧ Sq.Ends t ((r : Int) - 97) 0) := by
          by_cases h8 : (t.get! 0).toNat < 128
          · have e := hsm h8
            rw [← hr, ← hd, e]
            exact .inr (.inl ⟨rfl, .inl ⟨h8, rfl⟩, rfl⟩)
          · have h9 := hbig (by omega)
            rw [hr] at h9
            rw [hd] at hwd
            by_cases h1 : d = 1
            · exact .inr (.inl ⟨by omega, .inr ⟨by omega, by omega⟩, rfl⟩)
            · exact .inr (.inr ⟨by omega, .inr ⟨by omega, by omega⟩⟩)
        have Hst := Lib.hid hst
        rw [hr] at hnx0 hle
        rw [hd] at hnx0 hit2 hR2 hb2 hwd
        obtain ⟨W2, hW2⟩ : ∃ W2, wr.iterAt (w.heap.size + 1) t (0 + d) = W2 := ⟨_, rfl⟩
        rw [hW2] at hit2 hR2 hb2
        have hnx : ∀ ty, (Instr.next (.pointer (some ⟨w.heap.size + 1, 0, none⟩)) true ty).run Try.prog wr = .ok (.tuple #[.bool true, .int .i64 0, .int .i32 (r : Int)]) W2 := fun ty => by rw [hnx0 ty, hW2]; rfl
        have hwi : IntKind.i64.wrap (r : Int) = (r : Int) := by rw [IntKind.wrap_i64]; omega
        have hws : IntKind.i64.wrap ((r : Int) - 97) = (r : Int) - 97 := by rw [IntKind.wrap_i64]; omega
        have Hit := Lib.hid hit
        clear hst hr hd hW2 hnx0 hbig hsm hit hR hbr hp2
        go_wp2_with (first
          | (refine wpl_idx rfl 67 _ _ rfl rfl rfl run_idx0 ?_)
          | (refine wpl_idx rfl 67 _ _ rfl rfl rfl run_idx1 ?_)
          | ((with_reducible refine wp_store_at rfl 3 _ _ rfl ?_); refine ⟨_, _, _, _, .int .i64 ((r : Int) - 97), rfl, rfl, rfl, hR2, (by simp), Try.size_intS, ?_⟩; intro V hV hR3; have HZ := Lib.hid (show _ ∧ RowAt V w.heap.size 67 #[.int .i64 ((r : Int) - 97), .int .i64 0] ∧ _ from ⟨(hV.block (w.heap.size + 1) (by omega)).trans hit2, hR3, hV.below hb2 (Nat.le_refl _)⟩); clear hV hR2 hit2 hb2 hR3))
        refine ⟨⟨0 + d, HZ.out.1, _, _, HZ.out.2.1, HZ.out.2.2, by omega, by omega, Lib.hid (by rcases Hst.out with ⟨a, b, _⟩ | ⟨a, b, _⟩ | h; exact .inl ⟨a, b, rfl⟩; exact .inr (.inl ⟨a, b, rfl⟩); exact .inr (.inr h))⟩, ?_⟩
        simp only [World.iterPos, HZ.out.1, Hit.out]
        omega
      · have hp2 : 1 < t.size := by rw [H2.out]; omega
        have hnx0 : ∀ ty, (Instr.next (.pointer (some ⟨w.heap.size + 1, 0, none⟩)) true ty).run Try.prog wr = _ := fun ty => Lib.run_next_any_at wr (w.heap.size + 1) t 1 ty hit hp2
        have hit2 := Lib.iterAt_heap wr (w.heap.size + 1) t 1 (1 + (Utf8.decode t 1).2) hit
        have hR2 : RowAt (wr.iterAt (w.heap.size + 1) t (1 + (Utf8.decode t 1).2)) w.heap.size _ _ := ⟨(Lib.iterAt_other wr (w.heap.size + 1) w.heap.size t _ (by omega)).trans hR.heap⟩
        have hb2 := Lib.below_iterAt hbr (k := w.heap.size + 1) (by omega) t (1 + (Utf8.decode t 1).2)
        have hle := Sq.dec_le t 1
        have hwd := Sq.dec_wd t 1
        have hbig := Sq.dec_big t 1
        have hsm := Sq.dec_small t 1
        have hlast := Sq.dec_last t 1 (by rw [H2.out])
        obtain ⟨r, hr⟩ : ∃ r, (Utf8.decode t 1).1 = r := ⟨_, rfl⟩
        obtain ⟨d, hd⟩ : ∃ d, (Utf8.decode t 1).2 = d := ⟨_, rfl⟩
        have hst : (1 + d = 0 ∧ l0 = 0 ∧ (r : Int) - 49 = 0) ∨ (1 + d = 1 ∧ (((t.get! 0).toNat < 128 ∧ l0 = ((t.get! 0).toNat : Int) - 97) ∨ (128 ≤ (t.get! 0).toNat ∧ 31 ≤ l0)) ∧ (r : Int) - 49 = 0) ∨ (2 ≤ 1 + d ∧ Sq.Ends t l0 ((r : Int) - 49)) := by
          rw [hd] at hwd
          refine .inr (.inr ⟨by omega, ?_⟩)
          rcases hA with ⟨h1, h3⟩ | h1
          · refine .inl ⟨h1, h3, ?_⟩
            by_cases h8 : (t.get! 1).toNat < 128
            · have e := hsm h8
              exact .inl ⟨h8, by rw [← hr, e]⟩
            · have e := hlast (by omega)
              exact .inr ⟨by omega, by rw [← hr, e]; rfl⟩
          · exact .inr h1
        have Hst := Lib.hid hst
        rw [hr] at hnx0 hle
        rw [hd] at hnx0 hit2 hR2 hb2 hwd
        obtain ⟨W2, hW2⟩ : ∃ W2, wr.iterAt (w.heap.size + 1) t (1 + d) = W2 := ⟨_, rfl⟩
        rw [hW2] at hit2 hR2 hb2
        have hnx : ∀ ty, (Instr.next (.pointer (some ⟨w.heap.size + 1, 0, none⟩)) true ty).run Try.prog wr = .ok (.tuple #[.bool true, .int .i64 1, .int .i32 (r : Int)]) W2 := fun ty => by rw [hnx0 ty, hW2]; rfl
        have hwi : IntKind.i64.wrap (r : Int) = (r : Int) := by rw [IntKind.wrap_i64]; omega
        have hws : IntKind.i64.wrap ((r : Int) - 49) = (r : Int) - 49 := by rw [IntKind.wrap_i64]; omega
        have Hit := Lib.hid hit
        clear hst hr hd hW2 hnx0 hbig hsm hit hR hbr hp2 hA hlast
        go_wp2_with (first
          | (refine wpl_idx rfl 67 _ _ rfl rfl rfl run_idx0 ?_)
          | (refine wpl_idx rfl 67 _ _ rfl rfl rfl run_idx1 ?_)
          | ((with_reducible refine wp_store_at rfl 3 _ _ rfl ?_); refine ⟨_, _, _, _, .int .i64 ((r : Int) - 49), rfl, rfl, rfl, hR2, (by simp), Try.size_intS, ?_⟩; intro V hV hR3; have HZ := Lib.hid (show _ ∧ RowAt V w.heap.size 67 #[.int .i64 l0, .int .i64 ((r : Int) - 49)] ∧ _ from ⟨(hV.block (w.heap.size + 1) (by omega)).trans hit2, hR3, hV.below hb2 (Nat.le_refl _)⟩); clear hV hR2 hit2 hb2 hR3))
        refine ⟨⟨1 + d, HZ.out.1, _, _, HZ.out.2.1, HZ.out.2.2, by omega, by omega, Lib.hid Hst.out⟩, ?_⟩
        simp only [World.iterPos, HZ.out.1, Hit.out]
        omega
      · have hp2 : ¬ pos < t.size := by rw [H2.out]; omega
        have hnx : ∀ ty, (Instr.next (.pointer (some ⟨w.heap.size + 1, 0, none⟩)) true ty).run Try.prog wr = _ := fun ty => Lib.run_next_end_at wr (w.heap.size + 1) t pos ty hit hp2
        have HE := Lib.hid (Sq.parsed_of t l0 l1 H2.out hE)
        obtain ⟨n, ok, hv, hP⟩ := HE.out
        have HO := Lib.hid (sqof_any l0 l1 wr hl0 hl1)
        rw [hv] at HO
        have HP := Lib.hid hP
        have c0 := hR.cell 0
        have c1 := hR.cell 1
        simp only [List.getElem?_toArray, List.getElem?_cons_zero, List.getElem?_cons_succ] at c0 c1
        clear hv hP hE hp hp2 hR
        go_wp2_with (go_at_call 37; refine HO.out.mono ?_; rintro e w' ⟨rfl, rfl⟩)
        go_ret2
        exact ⟨⟨n, ok, rfl, HP.out⟩, hbr⟩
  · have hsI : ((t.size : Int) != 2) = true := by simp; omega
    have hno : ∀ s, s < 64 → t ≠ Sq.text s := fun s hs e => h2 (by rw [e]; rfl)
    have HN := Lib.hid hno
    clear hno
    go_enter Try.func21, Try.ntmps21
    go_wp2
    go_ret2
    exact ⟨⟨0, false, rfl, .inr ⟨rfl, rfl, HN.out⟩⟩, Below.refl _ _⟩
end Go.Proofs.Ytldpejeodhkgdaa
