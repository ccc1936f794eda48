/- Two positions compared. -/
import Derived.Test.YtlphjjekamhnlaaDoorBaseA
import Derived.DeepKeys
namespace Go.Proofs.YtlphjjekamhnlaaDoor
open Go.RowKit

/-- As 'flat', with what a comparison asks besides. -/
def gF (P : Program) (g : TypeId → Option (List (Option IntKind))) : List Field → Nat → Option (List (Option IntKind))
  | [], _ => some []
  | f :: fs, off => if f.offset = off ∧ (f.name != "_") = true then (g f.type).bind fun l => if P.cellsOf f.type = l.length then (gF P g fs (off + l.length)).map (l ++ ·) else none else none
def flatG (P : Program) : Nat → TypeId → Option (List (Option IntKind))
  | 0, _ => none
  | n + 1, t =>
    match P.underlying t with
    | some .bool => some [none]
    | some (.int k) => some [some k]
    | some (.struct fs) => (gF P (flatG P n) fs.toList 0).bind fun ks => if P.cellsOf t = ks.length then some ks else none
    | some (.array m e) => (flatG P n e).bind fun l => if P.cellsOf e = l.length ∧ P.cellsOf t = m * l.length then some (List.replicate m l).flatten else none
    | _ => none
def litOf : Value → Lit
  | .int k n => .int k n
  | .bool b => .bool b
  | _ => .bool false
theorem flatIs_split {ks ls : List (Option IntKind)} {cs : List Value} (h : FlatIs (ks ++ ls) cs) : FlatIs ks (cs.take ks.length) ∧ FlatIs ls (cs.drop ks.length) := by
  have hl : cs.length = ks.length + ls.length := by rw [h.1, List.length_append]
  refine ⟨⟨by rw [List.length_take]; omega, fun i k hi => ?_⟩, ⟨by rw [List.length_drop]; omega, fun i k hi => ?_⟩⟩
  · have hlt := (List.getElem?_eq_some_iff.1 hi).1
    obtain ⟨u, hu, hc⟩ := h.2 i k (by rw [List.getElem?_append_left hlt]; exact hi)
    exact ⟨u, by rw [List.getElem?_take_of_lt hlt]; exact hu, hc⟩
  · obtain ⟨u, hu, hc⟩ := h.2 (ks.length + i) k (by rw [List.getElem?_append_right (by omega), Nat.add_sub_cancel_left]; exact hi)
    exact ⟨u, by rw [List.getElem?_drop]; exact hu, hc⟩
theorem gF_names {P : Program} {g : TypeId → Option (List (Option IntKind))} : ∀ (fs : List Field) (off : Nat) (ks : List (Option IntKind)), gF P g fs off = some ks → fs.all (·.name != "_") = true
  | [], _, _, _ => rfl
  | f :: fs, off, ks, h => by
    unfold gF at h
    split at h
    · rename_i hf
      rw [Option.bind_eq_some_iff] at h
      obtain ⟨l, _, h⟩ := h
      split at h
      · rw [Option.map_eq_some_iff] at h
        obtain ⟨ks', h', _⟩ := h
        rw [List.all_cons, hf.2, gF_names fs _ _ h']; rfl
      · cases h
    · cases h
theorem gF_key {P : Program} {g : TypeId → Option (List (Option IntKind))} {keys : TypeId → List Value → Option (List Lit)} (hg : ∀ t ks ds, g t = some ks → FlatIs ks ds → keys t ds = some (ds.map litOf)) (cs : List Value) :
    ∀ (fs : List Field) (off : Nat) (ks : List (Option IntKind)), gF P g fs off = some ks → FlatIs ks (cs.drop off) →
      ∃ ls, (fs.mapM fun f => keys f.type ((cs.drop f.offset).take (P.cellsOf f.type))) = some ls ∧ ls.flatten = (cs.drop off).map litOf
  | [], off, ks, h, hF => by
    simp only [gF, Option.some.injEq] at h
    subst h
    have : cs.drop off = [] := List.eq_nil_of_length_eq_zero (by simpa using hF.1)
    exact ⟨[], rfl, by rw [this]; rfl⟩
  | f :: fs, off, ks, h, hF => by
    unfold gF at h
    split at h
    · rename_i hf
      rw [Option.bind_eq_some_iff] at h
      obtain ⟨l, hl, h⟩ := h
      split at h
      · rename_i hc
        rw [Option.map_eq_some_iff] at h
        obtain ⟨ks', h', rfl⟩ := h
        obtain ⟨h1, h2⟩ := flatIs_split hF
        rw [List.drop_drop] at h2
        obtain ⟨ls, e1, e2⟩ := gF_key hg cs fs (off + l.length) ks' h' h2
        refine ⟨((cs.drop off).take l.length).map litOf :: ls, ?_, ?_⟩
        · rw [List.mapM_cons, hf.1, hc, hg _ _ _ hl h1, e1]; rfl
        · rw [List.flatten_cons, e2, ← List.drop_drop, ← List.map_append, List.take_append_drop]
      · cases h
    · cases h
theorem gR_key {keys : List Value → Option (List Lit)} (l : List (Option IntKind)) (hg : ∀ ds, FlatIs l ds → keys ds = some (ds.map litOf)) (cs : List Value) :
    ∀ (m off : Nat), FlatIs (List.replicate m l).flatten (cs.drop (off * l.length)) →
      ∃ ls, ((List.range' off m).mapM fun i => keys ((cs.drop (i * l.length)).take l.length)) = some ls ∧ ls.flatten = (cs.drop (off * l.length)).map litOf
  | 0, off, hF => by
    have : cs.drop (off * l.length) = [] := List.eq_nil_of_length_eq_zero (by simpa using hF.1)
    exact ⟨[], rfl, by rw [this]; rfl⟩
  | m + 1, off, hF => by
    rw [List.replicate_succ, List.flatten_cons] at hF
    obtain ⟨h1, h2⟩ := flatIs_split hF
    rw [List.drop_drop, ← Nat.succ_mul] at h2
    obtain ⟨ls, e1, e2⟩ := gR_key l hg cs m (off + 1) h2
    refine ⟨((cs.drop (off * l.length)).take l.length).map litOf :: ls, ?_, ?_⟩
    · rw [List.range'_succ, List.mapM_cons, hg _ h1, e1]; rfl
    · rw [List.flatten_cons, e2, Nat.succ_mul, ← List.drop_drop, ← List.map_append, List.take_append_drop]
theorem flatG_key {P : Program} : ∀ (n : Nat) (t : TypeId) (ks : List (Option IntKind)) (cs : List Value), flatG P n t = some ks → FlatIs ks cs → P.keyLits n t cs = some (cs.map litOf)
  | 0, _, _, _, h, _ => by cases h
  | n + 1, t, ks, cs, h, hF => by
    unfold flatG at h
    unfold Program.keyLits
    cases hu : P.underlying t with
    | none => simp [hu] at h
    | some d =>
      simp only [hu] at h
      cases d
      case bool =>
        simp only [Option.some.injEq] at h
        subst h
        match cs, hF with
        | [u], hF =>
          obtain ⟨v, hv, b, rfl⟩ := hF.2 0 none rfl
          obtain rfl : u = .bool b := by simpa using hv
          simp [litOf]
        | [], hF => have := hF.1; simp at this
        | _ :: _ :: _, hF => have := hF.1; simp at this
      case int k =>
        simp only [Option.some.injEq] at h
        subst h
        match cs, hF with
        | [u], hF =>
          obtain ⟨v, hv, m, rfl, hw⟩ := hF.2 0 (some k) rfl
          obtain rfl : u = .int k m := by simpa using hv
          simp [litOf, hw]
        | [], hF => have := hF.1; simp at this
        | _ :: _ :: _, hF => have := hF.1; simp at this
      case struct fs =>
        simp only at h
        rw [Option.bind_eq_some_iff] at h
        obtain ⟨ks', h', h⟩ := h
        split at h
        · rename_i hc
          obtain rfl := Option.some.inj h
          obtain ⟨ls, e1, e2⟩ := gF_key (fun t ks ds => flatG_key n t ks ds) cs fs.toList 0 ks' h' (by rw [List.drop_zero]; exact hF)
          have hn := gF_names _ _ _ h'
          rw [List.drop_zero] at e2
          have hn2 : fs.all (·.name != "_") = true := by rw [← Array.all_toList]; exact hn
          simp only
          rw [if_pos ⟨by rw [hF.1, hc], hn2⟩, e1]
          simp [e2]
        · cases h
      case array m e =>
        simp only at h
        rw [Option.bind_eq_some_iff] at h
        obtain ⟨l, hl, h⟩ := h
        split at h
        · rename_i hc
          obtain rfl := Option.some.inj h
          obtain ⟨ls, e1, e2⟩ := gR_key l (fun ds hd => flatG_key n e l ds hl hd) cs m 0 (by rw [Nat.zero_mul, List.drop_zero]; exact hF)
          rw [Nat.zero_mul, List.drop_zero] at e2
          simp only
          rw [if_pos (by rw [hF.1, hc.2]; simp), hc.1, List.range_eq_range', e1]
          simp [e2]
        · cases h
      all_goals (simp at h)

/-- Do two positions hold the same? -/
def samePos (c c' : Nat → Int) : Bool := (List.range 88).all fun i => c i == c' i
theorem samePos_iff (c c' : Nat → Int) : samePos c c' = true ↔ ∀ i, i < 88 → c i = c' i := by
  unfold samePos
  rw [List.all_eq_true]
  exact ⟨fun h i hi => by simpa using h i (by simpa using hi), fun h i hi => by simpa using h i (by simpa using hi)⟩
theorem posFlatG : flatG Tryd.prog 6 31 = some posK := of_decide_eq_true (by kernel_rfl)
theorem posFlatIs (c : Nat → Int) (hc : PosOk c) : FlatIs posK (posL c) := by
  refine ⟨by rw [posK_len]; simp [posL], fun i k hi => ?_⟩
  have hlt := (List.getElem?_eq_some_iff.1 hi).1
  rw [posK_len] at hlt
  have : k = some (pk i) := by simp [posK, hlt] at hi; exact hi.symm
  subst this
  exact ⟨_, by simp [posL, hlt], _, rfl, hc i hlt⟩
theorem lits_iff (c c' : Nat → Int) : (posL c).map litOf = (posL c').map litOf ↔ ∀ i, i < 88 → c i = c' i := by
  unfold posL
  constructor
  · intro h i hi
    have := congrArg (·[i]?) h
    simp [hi, litOf] at this
    exact this
  · intro h
    rw [List.map_map, List.map_map]
    apply List.map_congr_left
    intro i hi
    simp [litOf, h i (by simpa using hi)]
theorem posKeyType : Tryd.prog.keyTypeAt 5 31 = true := of_decide_eq_true (by kernel_rfl)
theorem posFormed (c : Nat → Int) : (Value.agg (posC c)).formed Tryd.prog 31 = true := by kernel_rfl
theorem run_equal_pos (c c' : Nat → Int) (w : World) (hc : PosOk c) (hc' : PosOk c') : (Op.equal 31 (.agg (posC c)) (.agg (posC c'))).run Tryd.prog w = .ok (samePos c c') w := by
  obtain ⟨r, hr, hiff⟩ := run_equalIn_deep 9995 5 31 posKeyType w 6 6 (.agg (posC c)) (.agg (posC c')) _ _ (posFormed c) (posFormed c')
    (by show Tryd.prog.keyLits 6 31 (posC c).toList = _; unfold posC; exact flatG_key 6 _ _ _ posFlatG (posFlatIs c hc)) (by show Tryd.prog.keyLits 6 31 (posC c').toList = _; unfold posC; exact flatG_key 6 _ _ _ posFlatG (posFlatIs c' hc'))
  have e : r = samePos c c' := by
    rw [Bool.eq_iff_iff, hiff, lits_iff, samePos_iff]
  rw [← e]
  exact hr
theorem posGuard : Tryd.prog.eqGuardType Tryd.prog.depth 31 = false := by kernel_rfl
theorem exec_eql_pos (ev : Operand → Value) (o : Oper) (x y : Operand) (t : TypeId) (c c' : Nat → Int) (w : World) (hc : PosOk c) (hc' : PosOk c') (ho : o.op = .binOp .eql 31 x y t)
    (hx : ev x = .agg (posC c)) (hy : ev y = .agg (posC c')) : (execOp ev o).run Tryd.prog w = .ok (.value (.bool (samePos c c'))) w := by
  have h := run_equal_pos c c' w hc hc'
  have hg := posGuard
  unfold execOp
  simp only [ho, hx, hy]
  simp [eqGuard, binOp, h, hg, go_sem]
theorem exec_neq_pos (ev : Operand → Value) (o : Oper) (x y : Operand) (t : TypeId) (c c' : Nat → Int) (w : World) (hc : PosOk c) (hc' : PosOk c') (ho : o.op = .binOp .neq 31 x y t)
    (hx : ev x = .agg (posC c)) (hy : ev y = .agg (posC c')) : (execOp ev o).run Tryd.prog w = .ok (.value (.bool (!samePos c c'))) w := by
  have h := run_equal_pos c c' w hc hc'
  have hg := posGuard
  unfold execOp
  simp only [ho, hx, hy]
  simp [eqGuard, binOp, h, hg, go_sem]
theorem samePos_self (c : Nat → Int) : samePos c c = true := (samePos_iff c c).2 (fun _ _ => rfl)
section
variable {ops : Array Oper} {rest : List Oper} {o : Oper} {a : Act} {w : World} {Q : Exit → Act → World → Prop}
/-- Two positions are compared. -/
theorem wpl_neq_pos (hw : Region.wanted o (yielded ops a.tmps) = true) (x y : Operand) (t : TypeId) (ho : o.op = .binOp .neq 31 x y t)
    (h : ∃ c c' : Nat → Int, PosOk c ∧ PosOk c' ∧ a.eval x = .agg (posC c) ∧ a.eval y = .agg (posC c') ∧ wpList Tryd.prog ops Q rest (a.put o.dst (.bool (!samePos c c'))) w) : wpList Tryd.prog ops Q (o :: rest) a w := by
  obtain ⟨c, c', hc, hc', hx, hy, h⟩ := h
  refine wpList_step fun K hK => ?_
  rw [if_pos hw]
  unfold Oper.wp
  rw [exec_neq_pos a.eval o x y t c c' w hc hc' ho hx hy]
  exact hK _ _ h
theorem wpl_eql_pos (hw : Region.wanted o (yielded ops a.tmps) = true) (x y : Operand) (t : TypeId) (ho : o.op = .binOp .eql 31 x y t)
    (h : ∃ c c' : Nat → Int, PosOk c ∧ PosOk c' ∧ a.eval x = .agg (posC c) ∧ a.eval y = .agg (posC c') ∧ wpList Tryd.prog ops Q rest (a.put o.dst (.bool (samePos c c'))) w) : wpList Tryd.prog ops Q (o :: rest) a w := by
  obtain ⟨c, c', hc, hc', hx, hy, h⟩ := h
  refine wpList_step fun K hK => ?_
  rw [if_pos hw]
  unfold Oper.wp
  rw [exec_eql_pos a.eval o x y t c c' w hc hc' ho hx hy]
  exact hK _ _ h
end

end Go.Proofs.YtlphjjekamhnlaaDoor
