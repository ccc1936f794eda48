/- A range over a function whose iterator owns blocks of its own (a set O of blocks, which grows with what it makes) and writes to them between the rounds; the body leaves them alone. No program in sight. -/
import Derived.Test.YtlphjjekamhnlaaDoorBaseB
import Derived.Test.YtlphjjekamhnlaaDoorRow
namespace Go.Proofs.YtlphjjekamhnlaaDoor
open Go.RowKit Go.Sort

/-- What a round keeps: all below n0, and what the iterator owns. -/
def KO (n0 : Nat) (O : Nat → Prop) (W W' : World) : Prop := Below n0 W W' ∧ ∀ b, O b → W'.heap[b]? = W.heap[b]?
theorem KO.refl (n0 : Nat) (O : Nat → Prop) (W : World) : KO n0 O W W := ⟨Below.refl _ _, fun _ _ => rfl⟩
theorem KO.trans {n0 : Nat} {O : Nat → Prop} {A B C : World} (h : KO n0 O A B) (k : KO n0 O B C) : KO n0 O A C := ⟨h.1.trans k.1, fun b hb => (k.2 b hb).trans (h.2 b hb)⟩
theorem KO.put {n0 : Nat} {O : Nat → Prop} (W : World) (l : Nat) (o' : Obj) (hs : n0 ≤ W.heap.size) (hl : n0 ≤ l) (ho : ¬ O l) : KO n0 O W (W.putObj l o') :=
  ⟨(Below.refl n0 W).grown (grownBy_putObj' W l o') hs (fun k e => by cases e; omega), fun b hb => World.putObj_heap_other (fun e => ho (e ▸ hb))⟩
/-- The iterator makes memory; it may own the new blocks. -/
def Owns1 {α : Type} (I : (Nat → Prop) → List α → World → Prop) : Prop := ∀ O O' s W W', I O s W → Below W.heap.size W W' → (∀ b, O' b → O b ∨ (W.heap.size ≤ b ∧ b < W'.heap.size)) → I O' s W'
/-- It writes to a block that it owns. -/
def Owns2 {α : Type} (I : (Nat → Prop) → List α → World → Prop) : Prop := ∀ O s W W' b, I O s W → O b → Put b W W' → I O s W'

section
variable {P : Program} {Q : Exit → Act → World → Prop} {n : Nat}
/-- THE LAW. -/
theorem rangeFunc_tellsO {α : Type} {g : Operand} {ps : Array Tmp} {assign body : Code} {a : Act} {w : World} {gf : Nat} {lb : Array Value}
    (n0 : Nat) (hn0 : n0 ≤ w.heap.size) (O0 : Nat → Prop) (hO0 : ∀ b, O0 b → b < w.heap.size)
    (hg : a.eval g = .func (.func gf) #[] lb) (eg : ∀ args w, (callFunc gf args).run P w = .ok (.enter gf args) w)
    (encs : α → Array Value) (hps : ∀ x, (encs x).size = ps.size) (I : (Nat → Prop) → List α → World → Prop) (Ok : List α → α → World → Prop) (Ax : α → Act → World → Prop) (S : List α → Prop)
    (hI1 : Owns1 I) (hI3 : Owns2 I) (hI2 : ∀ O s, Puts w.heap.size (I O s)) (hO2 : ∀ s x, Puts w.heap.size (Ok s x)) (hA2 : ∀ x a', Puts w.heap.size (Ax x a'))
    (hiter : ∀ (l : Nat) (J : (Nat → Prop) → List α → World → Prop) (W : World), Below w.heap.size w W → Owns1 J → Owns2 J → J O0 [] W →
      (∀ O pre x W1, J O pre W1 → Ok pre x W1 → YieldAt Fence.wide (n - 1 - 1) P l (encs x) W1 fun e W' => e = .returned (.bool true) ∧ J O (pre ++ [x]) W' ∧ KO n0 O W1 W') →
      CallsIn Fence.wide (n - 1) P gf (#[.func (.yield l) #[] #[]] ++ lb) W fun e W' => (∃ v, e = .returned v) ∧ ∃ O xs, S xs ∧ J O xs W')
    (h0 : I O0 [] w)
    (hassign : ∀ (l : Nat) (O : Nat → Prop) (pre : List α) (x : α) (W : World) (K : Act → World → Prop), I O pre W → Ok pre x W → (∀ a' W', KeepsFrom w.heap.size W W' → KO n0 O W W' → I O pre W' → Ok pre x W' → Ax x a' W' → K a' W') →
      assign.wpIn (Fence.wide.inRound l) (n - 1 - 1) P (Exit.then K (fun _ _ _ => False)) { tmps := (ps.zip (encs x)).foldl (fun t (p, v) => t.setIfInBounds p v) a.tmps, defers := [] } W)
    (hbody : ∀ (l : Nat) (O : Nat → Prop) (pre : List α) (x : α) (a' : Act) (W : World), w.heap.size ≤ l → I O pre W → Ok pre x W → Ax x a' W →
      body.wpIn (Fence.wide.inRound l) (n - 1 - 1) P (fun e _ W' => e = .normal ∧ KeepsFrom w.heap.size W W' ∧ KO n0 O W W' ∧ I O (pre ++ [x]) W') a' W)
    (hdone : ∀ (D : Nat) (O : Nat → Prop) (xs : List α) (W : World), w.heap.size ≤ D → S xs → I O xs W → W.heap[D]? = some (.deferred (some [])) → Q .normal { a with defers := { target := .collected D, args := #[] } :: a.defers } W) :
    (Code.rangeFunc g ps assign body).wpIn Fence.wide n P Q a w := by
  refine wpIn_rangeFunc fun fn hfn => ?_
  generalize hB : w.heap.size = B at *
  -- the record of the loop; where it lies, and the block beneath it
  let rc : LoopState → Loop := fun st => { state := st, pending := none, fn, tmps := a.tmps, params := ps, assign, body, defers := B }
  let Bk : World → Prop := fun W => W.heap[B + 1]? = some (.loop (rc .ready)) ∧ W.heap[B]? = some (.deferred (some []))
  have hBg : Grows Bk := fun W W' h hb => ⟨(hb.block _ (Array.getElem?_eq_some_iff.1 h.1).1).trans h.1, (hb.block _ (Array.getElem?_eq_some_iff.1 h.2).1).trans h.2⟩
  let W1 : World := (w.alloc (.deferred (some []))).alloc (.loop (rc .ready))
  have hW1 : Below B w W1 := by
    have := ((Below.refl w.heap.size w).alloc (Nat.le_refl _) (.deferred (some []))).alloc (by simp) (.loop (rc .ready))
    rwa [hB] at this
  have hbk1 : Bk W1 := by
    constructor
    · have := World.alloc_heap_new (w.alloc (.deferred (some []))) (.loop (rc .ready))
      rwa [World.size_alloc, hB] at this
    · have := (Below.heap_alloc (w.alloc (.deferred (some []))) (.loop (rc .ready)) w.heap.size (by simp)).trans (World.alloc_heap_new w _)
      rwa [hB] at this
  have hI1' : I O0 [] W1 := hI1 O0 O0 [] w W1 h0 (by rw [hB]; exact hW1) (fun b hb => .inl hb)
  refine ⟨B + 1, [{ target := .collected B, args := #[] }], W1, { target := .fn (.func gf) lb, args := #[.func (.yield (B + 1)) #[] #[]] }, W1, gf, #[.func (.yield (B + 1)) #[] #[]] ++ lb, W1, ?_, ?_, fun _ _ => trivial, ?_, fun h => by simp [Fence.wide] at h, ?_⟩
  · have := run_enterLoop_outer (P := P) (w := w) fn a.tmps ps assign body
    rw [hB] at this
    exact this
  · simp only [resolve, hg]
    simp [go_sem]
  · simp [invoke, go_sem, eg]
  · refine (hiter (B + 1) (fun O s W => I O s W ∧ Bk W ∧ ¬ O B ∧ ¬ O (B + 1)) W1 hW1
      (fun O O' s W W' h hb ho => ⟨hI1 O O' s W W' h.1 hb ho, hBg W W' h.2.1 hb, fun hx => (ho _ hx).elim h.2.2.1 (fun e => by have := (Array.getElem?_eq_some_iff.1 h.2.1.2).1; omega), fun hx => (ho _ hx).elim h.2.2.2 (fun e => by have := (Array.getElem?_eq_some_iff.1 h.2.1.1).1; omega)⟩)
      (fun O s W W' b h hob hp => ⟨hI3 O s W W' b h.1 hob hp, ⟨(hp.block _ (fun e => h.2.2.2 (by rw [e]; exact hob))).trans h.2.1.1, (hp.block _ (fun e => h.2.2.1 (by rw [e]; exact hob))).trans h.2.1.2⟩, h.2.2⟩)
      ⟨hI1', hbk1, fun h => by have := hO0 _ h; omega, fun h => by have := hO0 _ h; omega⟩ ?_).mono ?_
    · rintro O pre x W ⟨hi, ⟨hl, hk⟩, hnB, hnB1⟩ hok
      refine ⟨fn, _, assign, body, run_yield (P := P) hl (hps x), roundIn_of_wpIn trivial (hassign (B + 1) O pre x W _ hi hok fun a' Wa hkf hkp hia hoa hax => ?_)⟩
      have hla := hkf.same _ _ (Nat.le_succ B) hl rfl
      have hka := hkf.same _ _ (Nat.le_refl B) hk rfl
      refine ⟨_, run_beginRound hla rfl, ?_⟩
      have hlt := (Array.getElem?_eq_some_iff.1 hla).1
      have hp := hI2 O pre Wa (B + 1) _ (.loop { rc .ready with state := .busy }) hia (Nat.le_succ B) hla rfl
      have hkp2 : KO n0 O Wa (Wa.putObj (B + 1) (.loop { rc .ready with state := .busy })) := KO.put Wa (B + 1) _ (by omega) (by omega) hnB1
      refine wpIn_mono (hbody (B + 1) O pre x a' _ (Nat.le_succ B) hp (hO2 pre x Wa (B + 1) _ _ hoa (Nat.le_succ B) hla rfl) (hA2 x a' Wa (B + 1) _ _ hax (Nat.le_succ B) hla rfl)) ?_
      rintro e a3 W3 ⟨rfl, hk3, hkp3, hi3⟩
      have hl3 := hk3.same (B + 1) (.loop { rc .ready with state := .busy }) (Nat.le_succ B) (World.putObj_heap_same hlt) rfl
      have hd3 := hk3.same B (.deferred (some [])) (Nat.le_refl B) ((World.putObj_heap_other (by omega)).trans hka) rfl
      refine ⟨_, _, run_endRound (P := P) none hl3, rfl, ⟨hI2 O _ W3 (B + 1) _ _ hi3 (Nat.le_succ B) hl3 rfl, ⟨World.putObj_heap_same (Array.getElem?_eq_some_iff.1 hl3).1, (World.putObj_heap_other (by omega)).trans hd3⟩, hnB, hnB1⟩, ?_⟩
      exact hkp.trans (hkp2.trans (hkp3.trans (KO.put W3 (B + 1) _ (by have := (Array.getElem?_eq_some_iff.1 hl3).1; omega) (by omega) hnB1)))
    · rintro e W2 ⟨⟨v, rfl⟩, O, xs, hS, hi, ⟨hl, hk⟩, _, _⟩
      exact ⟨none, _, run_endLoop (P := P) hl (by simp [rc]), hdone B O xs _ (Nat.le_refl B) hS (hI2 O _ W2 (B + 1) _ _ hi (Nat.le_succ B) hl rfl) ((World.putObj_heap_other (by omega)).trans hk)⟩
end

end Go.Proofs.YtlphjjekamhnlaaDoor
