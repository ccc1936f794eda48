/- A range over a function whose iterator makes memory of its own and tells, at each round, what holds of what it hands (Ok); a body that never leaves. At the wide fence. No program in sight. -/
import Derived.Test.YtdfgpbighadplaaDoorTail
import Derived.RangeFuncNested
import Derived.RangeFuncCalls
import Derived.RangeFuncBound
import Derived.OwnWalkIn
import Derived.TacticsInMore
import Derived.LoopIn
namespace Go.Proofs.YtdfgpbighadplaaDoor
open Go.RowKit Go.Sort

section
variable {P : Program} {Q : Exit → Act → World → Prop} {n : Nat}

theorem oper_in {l : Nat} {o : Oper} {a : Act} {w : World} {K : Act → World → Prop} (hd : ∀ c, o.op ≠ .defer c) (h : o.wp P a w K Q) : o.wpIn (Fence.wide.inRound l) n P a w K Q := by
  refine ⟨fun _ _ => trivial, ?_⟩
  have e : Oper.semAt (Fence.wide.inRound l).round a.eval o = execOp a.eval o := Oper.semAt_eq _ _ _ hd
  rw [e]
  unfold Oper.wp at h
  generalize (execOp a.eval o).run P w = r at *
  cases r with
  | ok x w' =>
    cases x with
    | value v => exact h
    | skip => exact h
    | defer d => exact h
    | enter f args => exact ⟨fun h => by simp [Fence.wide] at h, CallsIn.inRound l (callsIn_wide.2 h)⟩
    | row row args => exact ⟨fun h => by simp [Fence.wide] at h, fun c cs _ => let ⟨v, w', r, s⟩ := h c cs; ⟨v, w', r, stepsIn_wide.2 s⟩⟩
    | _ => exact absurd h (by simp [Oper.upon])
  | halt x w' => cases x <;> first | exact h | exact absurd h (by simp [Oper.upon])

theorem any_in {l : Nat} {md : Region.Mode} {ops : Array Oper} (hQ : ¬ LetsOut Q) (hd : ∀ (i : Nat) (o : Oper), ops[i]? = some o → ∀ c, o.op ≠ .defer c) :
    ∀ (f : Nat) (listed : Array Bool) (a : Act) (w : World), wpAny P md ops Q f listed a w → wpAnyIn (Fence.wide.inRound l) n P md ops Q f listed a w := by
  intro f
  induction f with
  | zero => intro listed a w h; exact h
  | succ f ih =>
    intro listed a w h
    refine ⟨h.1, fun i hi => ?_⟩
    have h2 := h.2 i hi
    unfold wpOp at h2
    unfold wpOpIn
    split
    · rename_i ho
      rw [ho] at h2
      exact ih _ _ _ h2
    · rename_i o ho
      rw [ho] at h2
      simp only at h2
      split
      · rename_i hw
        rw [if_pos hw] at h2
        rcases h2 with h2 | h2
        · exact Oper.wpIn_mono (fun a' w' h' => ih _ a' w' h') (oper_in (hd i o ho) h2)
        · exact absurd h2.2 hQ
      · rename_i hw
        rw [if_neg hw] at h2
        exact ⟨fun _ _ => trivial, ih _ _ _ h2⟩

def noDefer (l : List Oper) : Bool := l.all fun o => match o.op with | .defer _ => false | _ => true
theorem noDefer_at {l : List Oper} (h : noDefer l = true) (i : Nat) (o : Oper) (ho : l.toArray[i]? = some o) (c : Call) : o.op ≠ .defer c := by
  intro e
  have := List.all_eq_true.1 h o (List.mem_of_getElem? (by simpa using ho))
  rw [e] at this
  cases this

/-- The region law in a round. -/
theorem region_tail_in {l0 : Nat} {id N : Nat} {a : Act} {w : World} {l : List Oper} (hQ : ¬ LetsOut Q) (hd : noDefer l = true) (hm : P.follows .mixedOrders = true) (hB : tailOk l N = true)
    (h : wpQuiet P l.toArray (fun w' => ∃ p : Regrown, w' = grow (redrawn w p.d) p.os) (fun a' => ∀ w', Below w.heap.size w w' → wpList P l.toArray Q (l.drop N) a' w') (l.take N) a) : (Code.region id l.toArray true).wpIn (Fence.wide.inRound l0) n P Q a w :=
  wpIn_region_any hm (any_in hQ (noDefer_at hd) _ _ _ _ (region_tail_any hB h))

/-- What abides the turn of a block that holds no cells and lies at or beyond B. -/
def Puts (B : Nat) (J : World → Prop) : Prop := ∀ (W : World) (l : Nat) (o o' : Obj), J W → B ≤ l → W.heap[l]? = some o → o.isCells = false → J (W.putObj l o')
def Grows (J : World → Prop) : Prop := ∀ W W', J W → Below W.heap.size W W' → J W'

/-- THE LAW. -/
theorem rangeFunc_tells {α : Type} {g : Operand} {ps : Array Tmp} {assign body : Code} {a : Act} {w : World} {gf : Nat} {lb : Array Value}
    (hg : a.eval g = .func (.func gf) #[] lb) (eg : ∀ args w, (callFunc gf args).run P w = .ok (.enter gf args) w)
    (encs : α → Array Value) (hps : ∀ x, (encs x).size = ps.size) (I : List α → World → Prop) (Ok : α → World → Prop) (Kp : World → World → Prop) (Ax : α → Act → World → Prop) (S : List α → Prop)
    (hI1 : ∀ s, Grows (I s)) (hI2 : ∀ s, Puts w.heap.size (I s)) (hO2 : ∀ x, Puts w.heap.size (Ok x)) (hA2 : ∀ x a', Puts w.heap.size (Ax x a'))
    (hKt : ∀ {A B C : World}, Kp A B → Kp B C → Kp A C) (hKp : ∀ W, Puts w.heap.size (Kp W)) (hKr : ∀ W, Kp W W)
    (hiter : ∀ (l : Nat) (J : List α → World → Prop) (W : World), Below w.heap.size w W → (∀ s, Grows (J s)) → J [] W →
      (∀ pre x W1, J pre W1 → Ok x W1 → YieldAt Fence.wide (n - 1 - 1) P l (encs x) W1 fun e W' => e = .returned (.bool true) ∧ J (pre ++ [x]) W' ∧ Kp W1 W') →
      CallsIn Fence.wide (n - 1) P gf (#[.func (.yield l) #[] #[]] ++ lb) W fun e W' => (∃ v, e = .returned v) ∧ ∃ xs, S xs ∧ J xs W')
    (h0 : I [] w)
    (hassign : ∀ (l : Nat) (pre : List α) (x : α) (W : World) (K : Act → World → Prop), I pre W → Ok x W → (∀ a' W', KeepsFrom w.heap.size W W' → Kp W W' → I pre W' → Ok x W' → Ax x a' W' → K a' W') →
      assign.wpIn (Fence.wide.inRound l) (n - 1 - 1) P (Exit.then K (fun _ _ _ => False)) { tmps := (ps.zip (encs x)).foldl (fun t (p, v) => t.setIfInBounds p v) a.tmps, defers := [] } W)
    (hbody : ∀ (l : Nat) (pre : List α) (x : α) (a' : Act) (W : World), w.heap.size ≤ l → I pre W → Ok x W → Ax x a' W →
      body.wpIn (Fence.wide.inRound l) (n - 1 - 1) P (fun e _ W' => e = .normal ∧ KeepsFrom w.heap.size W W' ∧ Kp W W' ∧ I (pre ++ [x]) W') a' W)
    (hdone : ∀ (D : Nat) (xs : List α) (W : World), w.heap.size ≤ D → S xs → I xs W → W.heap[D]? = some (.deferred (some [])) → Q .normal { a with defers := { target := .collected D, args := #[] } :: a.defers } W) :
    (Code.rangeFunc g ps assign body).wpIn Fence.wide n P Q a w := by
  refine wpIn_rangeFunc fun fn hfn => ?_
  generalize hB : w.heap.size = B at *
  -- the record of the loop; where it lies, and the block beneath it
  let rc : LoopState → Loop := fun st => { state := st, pending := none, fn, tmps := a.tmps, params := ps, assign, body, defers := B }
  let Bk : World → Prop := fun W => W.heap[B + 1]? = some (.loop (rc .ready)) ∧ W.heap[B]? = some (.deferred (some []))
  have hBg : Grows Bk := fun W W' h hb => ⟨(hb.block _ (Array.getElem?_eq_some_iff.1 h.1).1).trans h.1, (hb.block _ (Array.getElem?_eq_some_iff.1 h.2).1).trans h.2⟩
  let W1 : World := (w.alloc (.deferred (some []))).alloc (.loop (rc .ready))
  have hW1 : Below B w W1 := by
    have := ((Below.refl w.heap.size w).alloc (Nat.le_refl _) (.deferred (some []))).alloc (by simp) (.loop (rc .ready))
    rwa [hB] at this
  have hbk1 : Bk W1 := by
    constructor
    · have := World.alloc_heap_new (w.alloc (.deferred (some []))) (.loop (rc .ready))
      rwa [World.size_alloc, hB] at this
    · have := (Below.heap_alloc (w.alloc (.deferred (some []))) (.loop (rc .ready)) w.heap.size (by simp)).trans (World.alloc_heap_new w _)
      rwa [hB] at this
  have hI1' : I [] W1 := hI1 _ w W1 h0 (by rw [hB]; exact hW1)
  refine ⟨B + 1, [{ target := .collected B, args := #[] }], W1, { target := .fn (.func gf) lb, args := #[.func (.yield (B + 1)) #[] #[]] }, W1, gf, #[.func (.yield (B + 1)) #[] #[]] ++ lb, W1, ?_, ?_, fun _ _ => trivial, ?_, fun h => by simp [Fence.wide] at h, ?_⟩
  · have := run_enterLoop_outer (P := P) (w := w) fn a.tmps ps assign body
    rw [hB] at this
    exact this
  · simp only [resolve, hg]
    simp [go_sem]
  · simp [invoke, go_sem, eg]
  · refine (hiter (B + 1) (fun s W => I s W ∧ Bk W) W1 hW1 (fun s W W' h hb => ⟨hI1 s W W' h.1 hb, hBg W W' h.2 hb⟩) ⟨hI1', hbk1⟩ ?_).mono ?_
    · rintro pre x W ⟨hi, hl, hk⟩ hok
      refine ⟨fn, _, assign, body, run_yield (P := P) hl (hps x), roundIn_of_wpIn trivial (hassign (B + 1) pre x W _ hi hok fun a' Wa hkf hkp hia hoa hax => ?_)⟩
      have hla := hkf.same _ _ (Nat.le_succ B) hl rfl
      have hka := hkf.same _ _ (Nat.le_refl B) hk rfl
      refine ⟨_, run_beginRound hla rfl, ?_⟩
      have hlt := (Array.getElem?_eq_some_iff.1 hla).1
      have hp := hI2 pre Wa (B + 1) _ (.loop { rc .ready with state := .busy }) hia (Nat.le_succ B) hla rfl
      have hkp2 := hKp Wa Wa (B + 1) _ (.loop { rc .ready with state := .busy }) (hKr Wa) (Nat.le_succ B) hla rfl
      refine wpIn_mono (hbody (B + 1) pre x a' _ (Nat.le_succ B) hp (hO2 x Wa (B + 1) _ _ hoa (Nat.le_succ B) hla rfl) (hA2 x a' Wa (B + 1) _ _ hax (Nat.le_succ B) hla rfl)) ?_
      rintro e a3 W3 ⟨rfl, hk3, hkp3, hi3⟩
      have hl3 := hk3.same (B + 1) (.loop { rc .ready with state := .busy }) (Nat.le_succ B) (World.putObj_heap_same hlt) rfl
      have hd3 := hk3.same B (.deferred (some [])) (Nat.le_refl B) ((World.putObj_heap_other (by omega)).trans hka) rfl
      refine ⟨_, _, run_endRound (P := P) none hl3, rfl, ⟨hI2 _ W3 (B + 1) _ _ hi3 (Nat.le_succ B) hl3 rfl, World.putObj_heap_same (Array.getElem?_eq_some_iff.1 hl3).1, (World.putObj_heap_other (by omega)).trans hd3⟩, ?_⟩
      exact hKt hkp (hKt hkp2 (hKp _ W3 (B + 1) _ _ hkp3 (Nat.le_succ B) hl3 rfl))
    · rintro e W2 ⟨⟨v, rfl⟩, xs, hS, hi, hl, hk⟩
      exact ⟨none, _, run_endLoop (P := P) hl (by simp [rc]), hdone B xs _ (Nat.le_refl B) hS (hI2 _ W2 (B + 1) _ _ hi (Nat.le_succ B) hl rfl) ((World.putObj_heap_other (by omega)).trans hk)⟩
end

end Go.Proofs.YtdfgpbighadplaaDoor
