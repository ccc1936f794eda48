import Derived.Test.YtbakeajgolhkgaaGreatDoorYar
import Derived.Test.YtbakeajgolhkgaaGreatDoorZl
set_option maxRecDepth 100000
set_option maxHeartbeats 8000000
open Go.Lib (hid)
namespace Go.Proofs.YtbakeajgolhkgaaGreatDoor
open Go.Proofs.Tryz
section
open Go.RowKit Go.Sort
attribute [local go_sem] Oper.semAt_some
namespace H
def xorAll(l:List (BitVec 64)):BitVec 64:=l.foldl bXor 0#64
theorem xorAll_snoc(l:List (BitVec 64))(x:BitVec 64):xorAll (l++[x])=bXor (xorAll l) x:=by unfold xorAll;rw [List.foldl_append];rfl
def key(c:Nat→Int):BitVec 64:=xorAll (parts c)
theorem Kp.of_below{bx:Nat}{W W':World}(h:Below W.heap.size W W'):Kp bx W W':=⟨h.size,fun b _ _ ho _=>(h.block b (Array.getElem?_eq_some_iff.1 ho).1).trans ho⟩
theorem Kp.trans{bx:Nat}{X Y Z:World}(h:Kp bx X Y)(k:Kp bx Y Z):Kp bx X Z:=⟨Nat.le_trans h.1 k.1,fun b o hb hx ho=>k.2 b o hb (h.2 b o hb hx ho) ho⟩
theorem Kp.putObj{bx:Nat}{W0 W:World}{l:Nat}{o o':Obj}(h:Kp bx W0 W)(ho:W.heap[l]? =some o)(hn:o.isCells=false):Kp bx W0 (W.putObj l o'):=by
 refine⟨by simpa using h.1,fun b o2 hb h2 hc=> ?_⟩
 have:=h.2 b o2 hb h2 hc
 by_cases e:b=l
 ·subst e
  rw [ho]at this
  cases this
  rw [hn]at hc
  cases hc
 ·exact(World.putObj_heap_other e).trans this
theorem Kp.set{bx:Nat}{W:World}(v:Value):Kp bx W (W.setCell ⟨bx,0,none⟩ v):=
 ⟨by simp,fun b _ hb ho _=>((grownBy_setCell' W bx v).block b (Array.getElem?_eq_some_iff.1 ho).1 (by simpa using hb)).trans ho⟩
end H
theorem zcg(c:Nat→Int)(w:World):cR 59 #[.agg (posC c)] w (.func (.func 136) #[] #[.pointer (some ⟨w.heap.size,0,none⟩)]) fun w'=>w.alloc (.cells (posC c) 31)=w':=by
 go_enter func59,ntmps59
 go_wp2
 go_ret
 exact⟨rfl,rfl⟩
theorem zhD(c:Nat→Int)(w:World)(hc:PosOk c):
  cB 20 #[.agg (posC c)] w (.int .u64 (U (H.key c))):=by
 have Hc:=hid hc
 clear hc
 refine(callsIn_wide (n:=6)).1 ?_
 refine callsIn_of_wp_marks func20 rfl trivial ?_ rfl
 simp only [ntmps20,List.size_toArray,List.length_cons,List.length_nil,Nat.reduceAdd,Nat.reduceSub,Array.replicate_succ,Array.replicate_zero,List.push_toArray,List.append_toArray,List.nil_append,List.cons_append]
 gi_wp2_with (first
  |((with_reducible refine zbw rfl _ rfl c ?_ ?_);·(exact⟨_,_,_,rfl,by repeat(first|exact heap_alloc_new _ _|assumption|refine(Below.heap_alloc _ _ _ (by simp<;>omega)).trans ?_)⟩))
  |(refine⟨trivial,?_⟩;gi_at_call 59;refine(callsIn_wide.2 (zcg _ _)).mono ?_;rintro e w' ⟨rfl,rfl⟩)
  |(gi_at_call 59;refine(callsIn_wide.2 (zcg _ _)).mono ?_;rintro e w' ⟨rfl,rfl⟩))
 have bO:=(Boxed.new (w.alloc (.cells (posC c) 31)) 23 (.int .u64 0)).alloc (.cells (posC c) 31)
 have bP:=PosAt.new ((w.alloc (.cells (posC c) 31)).alloc (.cells #[.int .u64 0] 23)) c
 rw [World.size_alloc]at bO
 rw [World.size_alloc,World.size_alloc]at bP
 have hB0:Below w.heap.size w (((w.alloc (.cells (posC c) 31)).alloc (.cells #[.int .u64 0] 23)).alloc (.cells (posC c) 31)):=(bA.alloc sp _).alloc (by simp<;>omega) _
 have hsz:(((w.alloc (.cells (posC c) 31)).alloc (.cells #[.int .u64 0] 23)).alloc (.cells (posC c) 31)).heap.size=w.heap.size+3:=by simp
 obtain⟨W0,hW0⟩:∃W0,(((w.alloc (.cells (posC c) 31)).alloc (.cells #[.int .u64 0] 23)).alloc (.cells (posC c) 31))=W0:=⟨_,rfl⟩
 rw [hW0]at bO bP hB0 hsz⊢
 clear hW0
 refine zaO (gf:=136) (lb:= #[.pointer (some ⟨w.heap.size+1+1,0,none⟩)]) rfl (enters_of func136 kr rfl) (fun x:BitVec 64=> #[.int .u64 (U x)]) (fun _=>rfl)
  (fun pre W=>Boxed W (w.heap.size+1) 23 (.int .u64 (U (H.xorAll pre)))∧Below w.heap.size w W) (fun _ _=>True) (H.Kp (w.heap.size+1))
  (fun x a' _=>a'={tmps:= #[.agg (posC c),.pointer (some ⟨w.heap.size,0,none⟩),.int .u64 0,.pointer (some ⟨w.heap.size+1,0,none⟩),.int .u64 (U x),.agg (posC c),.func (.func 136) #[] #[.pointer (some ⟨w.heap.size+1+1,0,none⟩)],.int .u64 (U x),undef,undef,undef,undef],defers:=[]})
  (fun xs=>xs=H.parts c) ?gr ?pu (fun _ _ _ _ _ h _ _ _=>h) (fun _ _ _ _ _ _ h _ _ _=>h) (fun h k=>h.trans k) (fun _ _ _ _ _ h _ ho hn=>h.putObj ho hn) (fun _=>H.Kp.of_below (Below.refl _ _)) ?iter ?start ?assign ?body ?done
 case gr=>
  rintro pre W W' ⟨hv,hb⟩ hb'
  exact⟨(hb'.block _ hv.lt).trans hv,za hb hb'⟩
 case pu=>
  rintro pre W l o o' ⟨hv,hb⟩ hl ho hn
  exact⟨hv.kept (grownBy_putObj' W l o') (fun e=>by cases e;rw [show W.heap[_]? =_ from hv]at ho;cases ho;cases hn),hb.grown (grownBy_putObj' W l o') hb.size (fun k e=>by cases e;omega)⟩
 case iter=>
  intro l J W hW hJ h0 hY
  exact callsIn_wide.2 (zcN l (w.heap.size+1) (w.heap.size+1+1) _ c J W Hc (bP.belowB hW om) om (by have:=hW.size;omega) hJ h0 (fun pre x W1 h1=>hY pre x W1 h1 trivial))
 case start=>exact⟨bO,hB0⟩
 case assign=>
  intro l pre x W Kk hI hx hK
  have HI:=hid hI
  gi_wp2
  exact hK _ _ (K.KeepsFrom.of_below (Below.refl _ _)) (H.Kp.of_below (Below.refl _ _)) HI trivial rfl
 case body=>
  rintro l pre x a' W hl ⟨hv,hB⟩ _ rfl
  have hc:=hv.cell
  have hf:=hv.frozen
  have HX:=hid (H.xorAll_snoc pre x)
  have HV:=hid (hv.set (.int .u64 (U (bXor (H.xorAll pre) x))))
  gi_wp2
  exact⟨(KeepsOthers.setCell _ _ _).from _,H.Kp.set _,HX.out▸HV.out,hB.setCell (p:=⟨w.heap.size+1,0,none⟩) sp _⟩
 case done=>
  rintro D xs W hD rfl ⟨hv,hB⟩ hK
  have hc:=hv.cell
  gi_wp2
  refine⟨by simp,.inl ⟨_,_,rfl,run_takeDeferred hK,?_⟩⟩
  exact⟨_,results_tmp rfl _ _ _,rfl,hB.grown (grownBy_putObj' W D _) hB.size (fun k e=>by cases e;omega)⟩
end
section
open Go.RowKit Go.Sort
namespace H
theorem xcm(x y:BitVec 64):bXor x y=bXor y x:=BitVec.xor_comm x y
theorem xas(x y z:BitVec 64):bXor (bXor x y) z=bXor x (bXor y z):=BitVec.xor_assoc x y z
instance :Std.Associative bXor:=⟨xas⟩
instance :Std.Commutative bXor:=⟨xcm⟩
theorem xz(x:BitVec 64):bXor x 0#64=x:=BitVec.xor_zero
theorem zx(x:BitVec 64):bXor 0#64 x=x:=BitVec.zero_xor
theorem xs(x:BitVec 64):bXor x x=0#64:=BitVec.xor_self
theorem zcT:∀(l:List (BitVec 64)) (x:BitVec 64),l.foldl bXor x=bXor x (xorAll l)
 |[],x=>(xz x).symm
 |a::l,x=>by
  unfold xorAll
  rw [List.foldl_cons,List.foldl_cons,zcT l,zcT l (bXor 0#64 a),zx,xas]
theorem zQ(a b:List (BitVec 64)):xorAll (a++b)=bXor (xorAll a) (xorAll b):=by
 rw [show xorAll (a++b)=b.foldl bXor (xorAll a)from List.foldl_append,zcT]
theorem zap(x:BitVec 64):xorAll [x]=x:=zx x
theorem zb4(k A B a b:BitVec 64):bXor (bXor (bXor k (bXor A B)) a) b=bXor k (bXor (bXor A a) (bXor B b)):=by ac_rfl
def chBd(c q:Nat→Int)(k:BitVec 64):Nat→BitVec 64
 |0=>k
 |n+1=>if c (1+n)=q (1+n)then chBd c q k n else bXor (bXor (chBd c q k n) (piece (c (1+n)) n)) (piece (q (1+n)) n)
def chRk(c q:Nat→Int)(t:Nat)(k:BitVec 64):Nat→BitVec 64
 |0=>k
 |n+1=>bXor (bXor (chRk c q t k n) (rook t n (c (79+2*t+n)))) (rook t n (q (79+2*t+n)))
def chPk(c q:Nat→Int)(t:Nat)(k:BitVec 64):Nat→BitVec 64
 |0=>k
 |n+1=>bXor (bXor (chPk c q t k n) (pocket t n (c (66+6*t+n)))) (pocket t n (q (66+6*t+n)))
def chCols(c q:Nat→Int)(k:BitVec 64):Nat→BitVec 64
 |0=>k
 |t+1=>bXor (bXor (chPk c q t (chRk c q t (chCols c q k t) 2) 6) (checks t (c (84+t)))) (checks t (q (84+t)))
def changed(c q:Nat→Int)(k:BitVec 64):BitVec 64:=
 bXor (bXor (bXor (bXor (bXor (chCols c q (chBd c q k 64) 2) (turn (c 78))) (turn (q 78))) (passing (c 83))) (passing (q 83))) (promoted (bXor (A.bs (c 65)) (A.bs (q 65))))
theorem zgE(c q:Nat→Int)(k:BitVec 64):∀n,chBd c q k n=bXor k (bXor (xorAll (bdParts c n)) (xorAll (bdParts q n)))
 |0=>(show k=bXor k (bXor 0#64 0#64) by rw [xs,xz])
 |n+1=>by
  unfold chBd
  rw [zgE c q k n,bdParts_succ,bdParts_succ,xorAll_snoc,xorAll_snoc]
  split
  ·rename_i h
   rw [h,←zb4]
   rw [xas _ (piece (q (1+n)) n),xs,xz]
  ·exact zb4 _ _ _ _ _
theorem zgc(c q:Nat→Int)(t:Nat)(k:BitVec 64):∀n,chRk c q t k n=bXor k (bXor (xorAll (rkParts c t n)) (xorAll (rkParts q t n)))
 |0=>(show k=bXor k (bXor 0#64 0#64) by rw [xs,xz])
 |n+1=>by
  unfold chRk
  rw [zgc c q t k n,rkParts_succ,rkParts_succ,xorAll_snoc,xorAll_snoc]
  exact zb4 _ _ _ _ _
theorem zgp(c q:Nat→Int)(t:Nat)(k:BitVec 64):∀n,chPk c q t k n=bXor k (bXor (xorAll (pkParts c t n)) (xorAll (pkParts q t n)))
 |0=>(show k=bXor k (bXor 0#64 0#64) by rw [xs,xz])
 |n+1=>by
  unfold chPk
  rw [zgp c q t k n,pkParts_succ,pkParts_succ,xorAll_snoc,xorAll_snoc]
  exact zb4 _ _ _ _ _
theorem zdg(c q:Nat→Int)(k:BitVec 64):∀n,chCols c q k n=bXor k (bXor (xorAll (cols c n)) (xorAll (cols q n)))
 |0=>(show k=bXor k (bXor 0#64 0#64) by rw [xs,xz])
 |t+1=>by
  unfold chCols
  rw [zgp,zgc,zdg c q k t,cols_succ,cols_succ,zQ,zQ]
  unfold colParts
  rw [zQ,zQ,zQ,zQ,zap,zap]
  ac_rfl
theorem zdR(a b:BitVec 64):∀n,proms (bXor a b) n=bXor (proms a n) (proms b n)
 |0=>(xs _).symm
 |n+1=>by
  unfold proms
  rw [zdR a b n,show bit (bXor a b) n=(bit a n ^^ bit b n)from by unfold bit bXor;exact BitVec.getLsbD_xor ..]
  unfold partIf
  cases bit a n<;>cases bit b n
  ·simp only [Bool.xor_false,Bool.false_eq_true,if_false,xz]
  ·simp only [Bool.false_xor,Bool.false_eq_true,if_false,if_true,xz];ac_rfl
  ·simp only [Bool.xor_false,Bool.false_eq_true,if_false,if_true,xz];ac_rfl
  ·simp only [Bool.xor_self,Bool.false_eq_true,if_false,if_true,xz]
   rw [show bXor (bXor (proms a n) (part 7 n)) (bXor (proms b n) (part 7 n))=bXor (bXor (proms a n) (proms b n)) (bXor (part 7 n) (part 7 n)) by ac_rfl,xs,xz]
theorem zdf(a b:BitVec 64):promoted (bXor a b)=bXor (promoted a) (promoted b):=zdR a b 64
theorem zdP(c:Nat→Int):key c=bXor (bXor (bXor (bXor (bXor (xorAll (bdParts c 64)) (turn (c 78))) (passing (c 83))) (xorAll (cols c 2))) (promoted (A.bs (c 65)))) (part 8 (c 0)):=by
 unfold key parts
 rw [zQ,zQ,zQ,zQ,zQ,zap,zap,zap,zap]
theorem changed_key(c q:Nat→Int)(h:q 0=c 0):changed c q (key c)=key q:=by
 unfold changed
 rw [zdg,zgE,zdf,zdP c,zdP q,h]
 generalize xorAll (bdParts c 64)=a1
 generalize xorAll (bdParts q 64)=b1
 generalize turn (c 78)=a2
 generalize turn (q 78)=b2
 generalize passing (c 83)=a3
 generalize passing (q 83)=b3
 generalize xorAll (cols c 2)=a4
 generalize xorAll (cols q 2)=b4
 generalize promoted (A.bs (c 65))=a5
 generalize promoted (A.bs (q 65))=b5
 generalize part 8 (c 0)=v
 have e:∀k a b:BitVec 64,bXor (bXor (bXor k a) a) b=bXor k b:=fun k a b=>by rw [xas k a a,xs,xz]
 have e1:bXor (bXor (bXor (bXor (bXor (bXor (bXor (bXor (bXor (bXor (bXor (bXor a1 a2) a3) a4) a5) v) (bXor a1 b1)) (bXor a4 b4)) a2) b2) a3) b3) (bXor a5 b5)
  =bXor (bXor (bXor (bXor (bXor (bXor (bXor (bXor (bXor (bXor b1 b2) b3) b4) b5) v) (bXor a1 a1)) (bXor a2 a2)) (bXor a3 a3)) (bXor a4 a4)) (bXor a5 a5):=by ac_rfl
 rw [e1,xs,xs,xs,xs,xs,xz,xz,xz,xz,xz]
end H
namespace Sk
def Gm(base:Nat)(w:World)(b:Nat):Prop:=base≤b∧∃cs T x,w.heap[b]? =some (.cells cs T x)∧(T=94∨T=97)
def Kg(base:Nat)(w w':World):Prop:=But (Gm base w) w w'
section
variable {base:Nat} {w w' a b c:World}
theorem Kg.refl(base:Nat)(w:World):Kg base w w:=But.refl _ _
theorem Kg.trans(h:Kg base a b)(k:Kg base b c):Kg base a c:=But.trans' h k fun i hi hT=>by
 by_cases hs:Gm base a i
 ·exact hs
 ·obtain⟨h1,cs,T,x,h2,h3⟩:=hT
  exact⟨h1,cs,T,x,(h.block i hi hs).symm.trans h2,h3⟩
theorem Kg.of_below(base:Nat)(h:Below w.heap.size w w'):Kg base w w':=But.of_below _ h
theorem Kg.below(h:Kg base w w')(hB:base≤w.heap.size):Below base w w':=But.below h hB fun k hk hg=>absurd hg.1 om
theorem Kg.next(hb:Below base a b)(h:Kg base b c)(hB:base≤a.heap.size):Below base a c:=hb.trans (h.below (Nat.le_trans hB hb.size))
theorem Kg.block(h:Kg base w w'){k:Nat}{cs:Array Value}{T:TypeId}{x:Nat×Nat}(hk:w.heap[k]? =some (.cells cs T x))(h1:T≠94)(h2:T≠97):w'.heap[k]? =some (.cells cs T x):=
 (But.block h k (Array.getElem?_eq_some_iff.1 hk).1 fun⟨_,_,_,_,e,e2⟩=>by
  rw [hk]at e
  cases e
  rcases e2 with e2|e2
  ·exact h1 e2
  ·exact h2 e2).trans hk
end
def Foot(base:Nat)(F:Nat→Prop)(w:World):Prop:=∀b,F b→b<w.heap.size∧¬Gm base w b
def Same(F:Nat→Prop)(w w':World):Prop:=w.heap.size≤w'.heap.size∧∀b,F b→w'.heap[b]? =w.heap[b]?
def undoV(lb:Nat):Value:= .func (.func 112) #[] #[.pointer (some ⟨lb,0,none⟩)]
def Undo(c d:Nat→Int)(lb:Nat)(F:Nat→Prop)(w:World):Prop:=
 ∀W b o arr T,Same F w W→¬F b→W.heap[b]? =some (.cells arr T (0,0))→o+88≤arr.size→(∀i,i<88→arr[o+i]? =(posC d)[i]?)→
  Calls prog 112 #[.pointer (some ⟨b,o,none⟩),.pointer (some ⟨lb,0,none⟩)] W fun e W'=>(∃v,e= .returned v)∧W'.heap[b]? =some (.cells (Lg.setSeg arr o (posC c).toList) T (0,0))∧W.grownBy W' (some b)
theorem Foot.kg{base:Nat}{F:Nat→Prop}{w w':World}(h:Foot base F w)(k:Kg base w w'):Foot base F w'∧Same F w w':=by
 have hs:∀b,F b→w'.heap[b]? =w.heap[b]?:=fun b hb=>But.block k b (h b hb).1 (h b hb).2
 refine⟨fun b hb=>⟨Nat.lt_of_lt_of_le (h b hb).1 (But.size k),fun⟨h1,cs,T,x,h2,h3⟩=>(h b hb).2 ⟨h1,cs,T,x,(hs b hb).symm.trans h2,h3⟩⟩,But.size k,hs⟩
theorem Undo.same{c d:Nat→Int}{lb:Nat}{F:Nat→Prop}{w w':World}(h:Undo c d lb F w)(k:Same F w w'):Undo c d lb F w':=
 fun W b o arr T hs=>h W b o arr T ⟨Nat.le_trans k.1 hs.1,fun i hi=>(hs.2 i hi).trans (k.2 i hi)⟩
structure St where
 pos:Nat→Nat→Int
 mv:Nat→Mv
 lb:Nat→Nat
 F:Nat→Nat→Prop
def gameC(c:Nat→Int)(first:BitVec 64)(v:Value):Array Value:=(.bool true::((posC c).toList++[.int .u64 (U first),v])).toArray
def stepC(s:St)(i:Nat):List Value:=M.cell (s.mv i)++[.int .u64 (U (H.key (s.pos (i+1)))),undoV (s.lb i)]
def stepsC(s:St)(n:Nat):List Value:=(List.range n).flatMap (stepC s)
theorem zgg(s:St)(i:Nat):(stepC s i).length=7:=rfl
theorem stepsC_succ(s:St)(n:Nat):stepsC s (n+1)=stepsC s n++stepC s n:=by unfold stepsC;rw [List.range_succ,List.flatMap_append,List.flatMap_cons,List.flatMap_nil,List.append_nil]
theorem stepsC_len(s:St):∀n,(stepsC s n).length=n*7
 |0=>rfl
 |n+1=>by rw [stepsC_succ,List.length_append,stepsC_len s n,zgg];omega
theorem stepsC_get(s:St){n i j:Nat}(hi:i<n)(hj:j<7):(stepsC s n)[i*7+j]? =(stepC s i)[j]?:=by
 induction n with
 |zero=>omega
 |succ n ih=>
  rw [stepsC_succ]
  by_cases h:i<n
  ·rw [List.getElem?_append_left (by rw [stepsC_len];omega)];exact ih h
  ·obtain rfl:i=n:=by omega
   rw [List.getElem?_append_right (by rw [stepsC_len];omega),stepsC_len]
   congr 1
   omega
theorem stepsC_congr{s t:St}(n:Nat)(h:∀i,i<n→stepC s i=stepC t i):stepsC s n=stepsC t n:=by
 induction n with
 |zero=>unfold stepsC;rw [List.range_zero,List.flatMap_nil,List.flatMap_nil]
 |succ n ih=>
  rw [stepsC_succ,stepsC_succ,ih (fun i hi=>h i (Nat.lt_succ_of_lt hi)),h n (Nat.lt_succ_self n)]
structure At (base:Nat) (w:World) (g:Nat) (s:St) (n:Nat):Prop where
 lt:base≤g
 ok:∀i,i≤n→PosOk (s.pos i)
 foot:∀i,i<n→Foot base (s.F i) w
 undo:∀i,i<n→Undo (s.pos i) (s.pos (i+1)) (s.lb i) (s.F i) w
 mem:∃v,w.heap[g]? =some (.cells (gameC (s.pos n) (H.key (s.pos 0)) v) 94 (0,0))∧w.ownsRow base 97 7 v n (stepsC s n)
theorem own_gm{base:Nat}{w:World}{v:Value}{n:Nat}{xs:List Value}{b:Nat}(h:w.ownsRow base 97 7 v n xs)(hv:v.ownBlock=some b):Gm base w b∧b<w.heap.size:=by
 rcases h.2 with⟨rfl,_⟩|⟨g,cap,cur,rfl,hb,hg,_⟩
 ·cases hv
 ·cases hv
  exact⟨⟨hb,_,_,_,hg,.inr rfl⟩,(Array.getElem?_eq_some_iff.1 hg).1⟩
theorem At.below{base:Nat}{w w':World}{g:Nat}{s:St}{n:Nat}(h:At base w g s n)(hb:Below w.heap.size w w'):At base w' g s n:=by
 have hk:=Kg.of_below base hb
 obtain⟨v,h1,h2⟩:=h.mem
 refine⟨h.lt,h.ok,fun i hi=>((h.foot i hi).kg hk).1,fun i hi=>(h.undo i hi).same ((h.foot i hi).kg hk).2,v,(hb.block g (Array.getElem?_eq_some_iff.1 h1).1).trans h1,zq h2 hb⟩
end Sk
namespace Sk
def Seg(w:World)(b o:Nat)(c:Nat→Int):Prop:=∀i,i<88→w.cell? ⟨b,o+i,none⟩=some (.int (pk i) (c i))
theorem Seg.lt{w:World}{b o:Nat}{c:Nat→Int}(h:Seg w b o c):b<w.heap.size:=World.block_lt_of_cell? w _ (h 0 dc)
theorem Seg.below{w w':World}{b o:Nat}{c:Nat→Int}(h:Seg w b o c)(hb:Below w.heap.size w w'):Seg w' b o c:=fun i hi=>(hb.cell (p:=⟨b,o+i,none⟩) h.lt).trans (h i hi)
theorem Seg.at{w:World}{b o:Nat}{c:Nat→Int}(h:Seg w b o c)(i j:Nat)(hi:i<88)(k:IntKind)(hk:pk i=k)(e:o+i=j):w.cell? ⟨b,j,none⟩=some (.int k (c i)):=by subst hk e;exact h i hi
theorem _root_.Go.Proofs.YtbakeajgolhkgaaGreatDoor.PosAt.seg{w:World}{g:Nat}{c:Nat→Int}(h:PosAt w g c):Seg w g 0 c:=fun i hi=>by rw [Nat.zero_add];exact h.cell hi
end Sk
theorem zgH(x:BitVec 64)(b n:Nat)(ys:List (BitVec 64))(w:World)(hn:ys.length=n)(hr:∀(j:Nat) y,ys[j]? =some y→w.cell? ⟨b,j,none⟩=some (.int .u64 (U y)))(hN:n≤100):
  cR 102 #[.int .u64 (U x),.slice (some ⟨b,0,none⟩) n n] w (.int .u64 (U (ys.foldl bXor x))) fun w'=>w=w':=by
 have HR:=hid hr
 have Hn:=hid hn
 clear hr hn
 go_enter func102,ntmps102
 go_wp2
 go_loopw [0,6,9] (fun v _ i wr=>∃k:Nat,k≤n∧i= .int .i64 (k:Int)∧v= .int .u64 (U ((ys.take k).foldl bXor x))∧w=wr) (fun _ _ i _=>n-(intOf i).toNat)
 case atStart=>exact⟨0,Nat.zero_le _,rfl,rfl,rfl⟩
 case round=>
  obtain⟨k,hk,rfl,rfl,rfl⟩:=hrel
  by_cases hlt:k<n
  ·obtain⟨y,hy⟩:∃y,ys[k]? =some y:=⟨_,List.getElem?_eq_getElem (by rw [Hn.out];exact hlt)⟩
   have hc:=HR k y hy
   have HX:=hid (show bXor ((ys.take k).foldl bXor x) y=(ys.take (k+1)).foldl bXor x by rw [List.take_add_one,hy,List.foldl_append];rfl)
   have HV:=hid (zeI ((ys.take k).foldl bXor x) y)
   clear hy
   go_wp2
   exact⟨⟨k+1,by omega,by go_num,by rw [←HX.out,←HV.out],trivial⟩,by simp [intOf];omega⟩
  ·obtain rfl:k=n:=by omega
   have HE:=hid (show ys.take k=ys from List.take_of_length_le (by rw [Hn.out];omega))
   go_wp2
   go_ret
   exact⟨ret_int (by rw [HE.out]),rfl⟩
theorem Sk.lit_cells(w:World)(ys:List (BitVec 64)):∀(j:Nat) y,ys[j]? =some y→(w.alloc (.cells (ys.map fun y=>Value.int .u64 (U y)).toArray 23)).cell? ⟨w.heap.size,j,none⟩=some (.int .u64 (U y)):=by
 intro j y hy
 simp only [World.cell?,heap_alloc_new]
 simp [hy]
theorem Sk.mixed_lit(x:BitVec 64)(ys:List (BitVec 64))(w:World)(n:Nat)(hn:ys.length=n)(hN:n≤100):
  Calls prog 102 #[.int .u64 (U x),.slice (some ⟨w.heap.size,0,none⟩) n n] (w.alloc (.cells (ys.map fun y=>Value.int .u64 (U y)).toArray 23)) fun e w'=>e= .returned (.int .u64 (U (ys.foldl bXor x)))∧(w.alloc (.cells (ys.map fun y=>Value.int .u64 (U y)).toArray 23))=w':=
 zgH x _ n ys _ hn (Sk.lit_cells w ys) hN
theorem Sk.held{w W W':World}{ga gq:Nat}{c q:Nat→Int}(h:Sk.Seg W ga 1 c∧Sk.Seg W gq 0 q∧Below w.heap.size w W)(hb:Below W.heap.size W W'):Sk.Seg W' ga 1 c∧Sk.Seg W' gq 0 q∧Below w.heap.size w W':=
 ⟨h.1.below hb,h.2.1.below hb,za h.2.2 hb⟩
theorem Sk.w_i8{x:Int}(h: -128≤x∧x≤127):IntKind.i64.wrap x=x:=by rw [IntKind.wrap_i64];omega
theorem Sk.load_u64(p:Addr)(v:Value)(w:World)(h:w.cell? p=some v):(loadVar 23 p).run prog w= .ok v w:=by
 simp [go_sem,h]
theorem Sk.exec64{ev:Operand→Value}{o:Oper}(x y:Operand){g off n:Nat}{k:IntKind}(ho:o.op= .indexAddr 22 x y)(hx:ev x= .pointer (some ⟨g,off,none⟩))(hy:ev y= .int k (n:Int))(w:World)(hn:n<64):(execOp ev o).run prog w= .ok (.value (.pointer (some ⟨g,off+n,none⟩))) w:=by
 unfold execOp
 simp only [ho,hx,hy]
 have e1:(0:Int)≤(n:Int):=by omega
 have e2:(n:Int)<64:=by omega
 simp [go_sem,e1,e2]
theorem Sk.exec22{ev:Operand→Value}{o:Oper}(x y:Operand){g off n:Nat}{k:IntKind}(ho:o.op= .indexAddr 28 x y)(hx:ev x= .pointer (some ⟨g,off,none⟩))(hy:ev y= .int k (n:Int))(w:World)(hn:n<2):(execOp ev o).run prog w= .ok (.value (.pointer (some ⟨g,off+n*2,none⟩))) w:=by
 unfold execOp
 simp only [ho,hx,hy]
 have e1:(0:Int)≤(n:Int):=by omega
 have e2:(n:Int)<2:=by omega
 simp [go_sem,e1,e2]
theorem Sk.exec2i{ev:Operand→Value}{o:Oper}(x y:Operand){g off n:Nat}{k:IntKind}(ho:o.op= .indexAddr 27 x y)(hx:ev x= .pointer (some ⟨g,off,none⟩))(hy:ev y= .int k (n:Int))(w:World)(hn:n<2):(execOp ev o).run prog w= .ok (.value (.pointer (some ⟨g,off+n,none⟩))) w:=by
 unfold execOp
 simp only [ho,hx,hy]
 have e1:(0:Int)≤(n:Int):=by omega
 have e2:(n:Int)<2:=by omega
 simp [go_sem,e1,e2]
theorem Sk.exec26{ev:Operand→Value}{o:Oper}(x y:Operand){g off n:Nat}{k:IntKind}(ho:o.op= .indexAddr 25 x y)(hx:ev x= .pointer (some ⟨g,off,none⟩))(hy:ev y= .int k (n:Int))(w:World)(hn:n<2):(execOp ev o).run prog w= .ok (.value (.pointer (some ⟨g,off+n*6,none⟩))) w:=by
 unfold execOp
 simp only [ho,hx,hy]
 have e1:(0:Int)≤(n:Int):=by omega
 have e2:(n:Int)<2:=by omega
 simp [go_sem,e1,e2]
theorem Sk.exec6{ev:Operand→Value}{o:Oper}(x y:Operand){g off n:Nat}{k:IntKind}(ho:o.op= .indexAddr 24 x y)(hx:ev x= .pointer (some ⟨g,off,none⟩))(hy:ev y= .int k (n:Int))(w:World)(hn:n<6):(execOp ev o).run prog w= .ok (.value (.pointer (some ⟨g,off+n,none⟩))) w:=by
 unfold execOp
 simp only [ho,hx,hy]
 have e1:(0:Int)≤(n:Int):=by omega
 have e2:(n:Int)<6:=by omega
 simp [go_sem,e1,e2]
theorem Sk.exec2u{ev:Operand→Value}{o:Oper}(x y:Operand){g off n:Nat}{k:IntKind}(ho:o.op= .indexAddr 29 x y)(hx:ev x= .pointer (some ⟨g,off,none⟩))(hy:ev y= .int k (n:Int))(w:World)(hn:n<2):(execOp ev o).run prog w= .ok (.value (.pointer (some ⟨g,off+n,none⟩))) w:=by
 unfold execOp
 simp only [ho,hx,hy]
 have e1:(0:Int)≤(n:Int):=by omega
 have e2:(n:Int)<2:=by omega
 simp [go_sem,e1,e2]
theorem zbj(c q:Nat→Int)(x:BitVec 64)(ga gq:Nat)(w:World)(hc:PosOk c)(hq:PosOk q)(hC:Sk.Seg w ga 1 c)(hQ:Sk.Seg w gq 0 q):
  cB 46 #[.int .u64 (U x),.pointer (some ⟨ga,1,none⟩),.pointer (some ⟨gq,0,none⟩)] w (.int .u64 (U (H.changed c q x))):=by
 have Hc:=hid hc
 have Hq:=hid hq
 have HC:=hid (fun W (hb:Below w.heap.size w W)=>hC.below hb)
 have HQ:=hid (fun W (hb:Below w.heap.size w W)=>hQ.below hb)
 clear hc hq hC hQ
 go_enter func46,ntmps46
 go_wp2
 go_loopw [0,7,11] (fun v _ i wr=>∃k:Nat,k≤64∧i= .int .i64 (k:Int)∧v= .int .u64 (U (H.chBd c q x k))∧Below w.heap.size w wr) (fun _ _ i _=>64-(intOf i).toNat)
 case atStart=>exact⟨0,Nat.zero_le _,rfl,rfl,Below.refl _ _⟩
 case round=>
  obtain⟨k,hk,rfl,rfl,hb⟩:=hrel
  by_cases hlt:k<64
  ·obtain⟨y,hy⟩:∃y,H.chBd c q x k=y:=⟨_,rfl⟩
   rw [hy]
   have hca:=(HC wr hb).at (1+k) (1+1+k) om .u8 (zk hlt) om
   have hcq:=(HQ wr hb).at (1+k) (0+1+k) om .u8 (zk hlt) om
   rw [show 1+1+k=2+k by omega]at hca
   rw [show 0+1+k=1+k by omega]at hcq
   have ba:=hid (zw Hc k hlt)
   have bq:=hid (zw Hq k hlt)
   have HS:Hid (H.chBd c q x (k+1)=if c (1+k)=q (1+k)then y else bXor (bXor y (H.piece (c (1+k)) k)) (H.piece (q (1+k)) k)):=hid (by rw [←hy];rfl)
   have hk0:(k:Int)<64:=by omega
   have HK:=hid (show(0:Int)≤(k:Int)∧(k:Int)<64 by omega)
   clear hy
   by_cases he:c (1+k)=q (1+k)
   ·have hne:(c (1+k) !=q (1+k))=false:=by rw [he];exact bne_self_eq_false _
    have HS2:=hid (HS.trans (if_pos he))
    clear he HS
    go_upto_region 4 with fail
    go_region
    go_wp2
    exact⟨⟨k+1,by omega,by go_num,by rw [HS2.out],M.below_drew hb 1⟩,by simp [intOf];omega⟩
   ·have hne:(c (1+k) !=q (1+k))=true:=by rw [bne_iff_ne];exact he
    have HS2:=hid (HS.trans (if_neg he))
    clear he HS
    go_upto_region 4 with fail
    go_region
    replace hb:Below w.heap.size w wr.drew:=M.below_drew hb 1
    obtain⟨w4,hw4⟩:∃W,wr.drew=W:=⟨_,rfl⟩
    rw [hw4]at hb⊢
    have hsa:=HC w4 hb
    have hsq:=HQ w4 hb
    clear hw4 hca hcq hne
    go_upto_region 5 with fail
    refine wp_region_held (S:=fun W=>Sk.Seg W ga 1 c∧Sk.Seg W gq 0 q∧Below w.heap.size w W) kr ?_
    have hS0:Sk.Seg w4.drew ga 1 c∧Sk.Seg w4.drew gq 0 q∧Below w.heap.size w w4.drew:=⟨hsa,hsq,M.below_drew hb 1⟩
    refine tq 0 27 (.int .u64 (U y)) hS0 ?_
    refine tq 1 28 (.pointer (some ⟨ga,1,none⟩)) hS0 ?_
    refine tq 2 29 (.int .i64 (k:Int)) hS0 ?_
    refine tq 3 30 (.pointer (some ⟨ga,1,none⟩)) hS0 ?_
    refine tq 4 31 (.pointer (some ⟨ga,2,none⟩)) hS0 ?_
    refine te 5 (some 32) (.pointer (some ⟨ga,2+k,none⟩)) (zo (v0:= .pointer (some ⟨ga,2+k,none⟩)) kr (fun w9=>Sk.exec64 (.tmp 31) (.tmp 29) (n:=k) (off:=2) (k:= .i64) kr kr kr w9 hlt) rfl) hS0 ?_
    refine te 6 (some 33) (.int .u8 (c (1+k))) (zt kr 5 (.tmp 32) kr ⟨ga,2+k,none⟩ kr (fun w9=>zV _ _ w9) (fun w9 h9=>h9.1.at (1+k) (2+k) om .u8 (zk hlt) om)) hS0 ?_
    refine tq 7 34 (.int .i64 (k:Int)) hS0 ?_
    refine tq 9 36 (.pointer (some ⟨gq,0,none⟩)) hS0 ?_
    refine tq 10 37 (.int .i64 (k:Int)) hS0 ?_
    refine tq 11 38 (.pointer (some ⟨gq,0,none⟩)) hS0 ?_
    refine tq 12 39 (.pointer (some ⟨gq,1,none⟩)) hS0 ?_
    refine te 13 (some 40) (.pointer (some ⟨gq,1+k,none⟩)) (zo (v0:= .pointer (some ⟨gq,1+k,none⟩)) kr (fun w9=>Sk.exec64 (.tmp 39) (.tmp 37) (n:=k) (off:=1) (k:= .i64) kr kr kr w9 hlt) rfl) hS0 ?_
    refine te 14 (some 41) (.int .u8 (q (1+k))) (zt kr 5 (.tmp 40) kr ⟨gq,1+k,none⟩ kr (fun w9=>zV _ _ w9) (fun w9 h9=>h9.2.1.at (1+k) (1+k) om .u8 (zk hlt) om)) hS0 ?_
    refine tq 15 42 (.int .i64 (k:Int)) hS0 ?_
    refine tf 8 (some 35) 103 (#[.int .u8 (c (1+k)),.int .i64 (k:Int)]) (.int .u64 (U (H.piece (c (1+k)) k))) (fun W=>Below w4.drew.heap.size w4.drew W) (zbS _ _ _ ba.out.1 ba.out.2 HK) (fun v1 hR=> ?_)
    have hS1:Sk.Seg v1 ga 1 c∧Sk.Seg v1 gq 0 q∧Below w.heap.size w v1:=Sk.held hS0 hR
    clear hR
    refine⟨hS1,?_⟩
    refine tf 16 (some 43) 103 (#[.int .u8 (q (1+k)),.int .i64 (k:Int)]) (.int .u64 (U (H.piece (q (1+k)) k))) (fun W=>Below v1.heap.size v1 W) (zbS _ _ _ bq.out.1 bq.out.2 HK) (fun v2 hR=> ?_)
    have hS2:Sk.Seg v2 ga 1 c∧Sk.Seg v2 gq 0 q∧Below w.heap.size w v2:=Sk.held hS1 hR
    clear hR
    refine⟨hS2,?_⟩
    refine wpAnyH_all (rs:=[17]) kr sp (fun j hj=> ?_)
    obtain rfl:j=17:=by simpa using hj
    clear hj
    refine zz 17 (some 44) (.slice (some ⟨v2.heap.size,0,none⟩) 2 2) (v2.alloc (.cells (List.map (fun y=>Value.int .u64 (U y)) [(H.piece (c (1+k)) k),(H.piece (q (1+k)) k)]).toArray 23)) kr kr kr kr ?_
    simp only [Act.put,sA,sB,sC]
    have hSb:Sk.Seg (v2.alloc (.cells (List.map (fun y=>Value.int .u64 (U y)) [(H.piece (c (1+k)) k),(H.piece (q (1+k)) k)]).toArray 23)) ga 1 c∧Sk.Seg (v2.alloc (.cells (List.map (fun y=>Value.int .u64 (U y)) [(H.piece (c (1+k)) k),(H.piece (q (1+k)) k)]).toArray 23)) gq 0 q∧Below w.heap.size w (v2.alloc (.cells (List.map (fun y=>Value.int .u64 (U y)) [(H.piece (c (1+k)) k),(H.piece (q (1+k)) k)]).toArray 23)):=Sk.held hS2 bA
    refine⟨hSb,?_⟩
    refine tf 18 (some 45) 102 (#[.int .u64 (U y),.slice (some ⟨v2.heap.size,0,none⟩) 2 2]) (.int .u64 (U (List.foldl bXor y [(H.piece (c (1+k)) k),(H.piece (q (1+k)) k)]))) (fun W=>v2.alloc (.cells (List.map (fun y=>Value.int .u64 (U y)) [(H.piece (c (1+k)) k),(H.piece (q (1+k)) k)]).toArray 23)=W) (Sk.mixed_lit y [(H.piece (c (1+k)) k),(H.piece (q (1+k)) k)] v2 2 rfl dc) (fun v3 hR=> ?_)
    rw [hR]at hSb
    clear hR
    refine⟨hSb,?_⟩
    refine tP 19 0 (.int .u64 (U (List.foldl bXor y [(H.piece (c (1+k)) k),(H.piece (q (1+k)) k)]))) hSb ?_
    simp only [Act.put,sA,sC]
    refine wpAnyH_done kr ?_ _
    clear hS0 hS1 hS2
    go_wp2
    exact⟨⟨k+1,by omega,by go_num,by rw [HS2.out];rfl,hSb.2.2⟩,by simp [intOf];omega⟩
  ·obtain rfl:k=64:=by omega
   clear hk hlt
   obtain⟨x0,hx0⟩:∃y,H.chBd c q x 64=y:=⟨_,rfl⟩
   rw [hx0]
   have HX:=hid hx0
   have HB0:=hid hb
   clear hx0 hb
   go_wp2
   go_loopw [0,8] (fun v i wr=>∃k:Nat,k≤2∧i= .int .u8 (k:Int)∧v= .int .u64 (U (H.chCols c q x0 k))∧Below w.heap.size w wr) (fun _ i _=>2-(intOf i).toNat)
   case atStart=>exact⟨0,by omega,rfl,rfl,HB0⟩
   case round=>
    obtain⟨k,hk,rfl,rfl,hb⟩:=hrel
    by_cases hlt:k<2
    ·have HK:=hid (show(0:Int)≤(k:Int)∧(k:Int)≤1 by omega)
     have hk1:(k:Int)≤1:=by omega
     have hu:IntKind.u8.wrap ((k:Int)+1)=((k+1:Nat):Int):=by rw [IntKind.wrap_u8];omega
     obtain⟨z0,hz0⟩:∃y,H.chCols c q x0 k=y:=⟨_,rfl⟩
     rw [hz0]
     have HZ:=hid (show H.chCols c q x0 (k+1)=bXor (bXor (H.chPk c q k (H.chRk c q k z0 2) 6) (H.checks k (c (84+k)))) (H.checks k (q (84+k))) by rw [←hz0];rfl)
     have HB1:=hid hb
     clear hz0 hb
     go_wp2
     go_loopw [0,51] (fun v i wr=>∃j:Nat,j≤2∧i= .int .i64 (j:Int)∧v= .int .u64 (U (H.chRk c q k z0 j))∧Below w.heap.size w wr) (fun _ i _=>2-(intOf i).toNat)
     case atStart=>exact⟨0,by omega,rfl,rfl,HB1⟩
     case round=>
      obtain⟨j,hj,rfl,rfl,hb⟩:=hrel
      by_cases hl2:j<2
      ·obtain⟨y,hy⟩:∃y,H.chRk c q k z0 j=y:=⟨_,rfl⟩
       rw [hy]
       have HS2:=hid (show H.chRk c q k z0 (j+1)=bXor (bXor y (H.rook k j (c (79+2*k+j)))) (H.rook k j (q (79+2*k+j))) by rw [←hy];rfl)
       have HJ:=hid (show(0:Int)≤(j:Int)∧(j:Int)≤1 by omega)
       have FC:=hid (H.p_i8 Hc (i:=79+2*k+j) om (H.k_rk k j hlt hl2))
       have FQ:=hid (H.p_i8 Hq (i:=79+2*k+j) om (H.k_rk k j hlt hl2))
       have WC:=hid (Sk.w_i8 FC)
       have WQ:=hid (Sk.w_i8 FQ)
       clear hy
       go_upto_region 13 with fail
       obtain⟨w4,hw4⟩:∃W,wr=W:=⟨_,rfl⟩
       rw [hw4]at hb⊢
       have hsa:=HC w4 hb
       have hsq:=HQ w4 hb
       clear hw4
       refine wp_region_held (S:=fun W=>Sk.Seg W ga 1 c∧Sk.Seg W gq 0 q∧Below w.heap.size w W) kr ?_
       have hS0:Sk.Seg w4.drew ga 1 c∧Sk.Seg w4.drew gq 0 q∧Below w.heap.size w w4.drew:=⟨hsa,hsq,M.below_drew hb 1⟩
       refine tq 0 54 (.int .u64 (U y)) hS0 ?_
       refine tq 1 55 (.int .u8 (k:Int)) hS0 ?_
       refine tq 2 56 (.int .i64 (j:Int)) hS0 ?_
       refine tq 3 57 (.pointer (some ⟨ga,1,none⟩)) hS0 ?_
       refine tq 4 58 (.int .u8 (k:Int)) hS0 ?_
       refine tq 5 59 (.int .i64 (j:Int)) hS0 ?_
       refine tq 6 60 (.pointer (some ⟨ga,1,none⟩)) hS0 ?_
       refine tq 7 61 (.pointer (some ⟨ga,80,none⟩)) hS0 ?_
       refine te 8 (some 62) (.pointer (some ⟨ga,80+k*2,none⟩)) (zo (v0:= .pointer (some ⟨ga,80+k*2,none⟩)) kr (fun w9=>Sk.exec22 (.tmp 61) (.tmp 58) (n:=k) (off:=80) (k:= .u8) kr kr kr w9 hlt) rfl) hS0 ?_
       refine te 9 (some 63) (.pointer (some ⟨ga,80+k*2+j,none⟩)) (zo (v0:= .pointer (some ⟨ga,80+k*2+j,none⟩)) kr (fun w9=>Sk.exec2i (.tmp 62) (.tmp 59) (n:=j) (off:=80+k*2) (k:= .i64) kr kr kr w9 hl2) rfl) hS0 ?_
       refine te 10 (some 64) (.int .i8 (c (79+2*k+j))) (zt kr 26 (.tmp 63) kr ⟨ga,80+k*2+j,none⟩ kr (fun w9=>zK _ _ w9) (fun w9 h9=>h9.1.at (79+2*k+j) (80+k*2+j) om .i8 (H.k_rk k j hlt hl2) om)) hS0 ?_
       refine te 11 (some 65) (.int .i64 (c (79+2*k+j))) (zo (v0:= .int .i64 (IntKind.i64.wrap (c (79+2*k+j)))) kr (fun _=>by kernel_rfl) (by rw [WC.out])) hS0 ?_
       refine tq 13 67 (.int .u8 (k:Int)) hS0 ?_
       refine tq 14 68 (.int .i64 (j:Int)) hS0 ?_
       refine tq 15 69 (.pointer (some ⟨gq,0,none⟩)) hS0 ?_
       refine tq 16 70 (.int .u8 (k:Int)) hS0 ?_
       refine tq 17 71 (.int .i64 (j:Int)) hS0 ?_
       refine tq 18 72 (.pointer (some ⟨gq,0,none⟩)) hS0 ?_
       refine tq 19 73 (.pointer (some ⟨gq,79,none⟩)) hS0 ?_
       refine te 20 (some 74) (.pointer (some ⟨gq,79+k*2,none⟩)) (zo (v0:= .pointer (some ⟨gq,79+k*2,none⟩)) kr (fun w9=>Sk.exec22 (.tmp 73) (.tmp 70) (n:=k) (off:=79) (k:= .u8) kr kr kr w9 hlt) rfl) hS0 ?_
       refine te 21 (some 75) (.pointer (some ⟨gq,79+k*2+j,none⟩)) (zo (v0:= .pointer (some ⟨gq,79+k*2+j,none⟩)) kr (fun w9=>Sk.exec2i (.tmp 74) (.tmp 71) (n:=j) (off:=79+k*2) (k:= .i64) kr kr kr w9 hl2) rfl) hS0 ?_
       refine te 22 (some 76) (.int .i8 (q (79+2*k+j))) (zt kr 26 (.tmp 75) kr ⟨gq,79+k*2+j,none⟩ kr (fun w9=>zK _ _ w9) (fun w9 h9=>h9.2.1.at (79+2*k+j) (79+k*2+j) om .i8 (H.k_rk k j hlt hl2) om)) hS0 ?_
       refine te 23 (some 77) (.int .i64 (q (79+2*k+j))) (zo (v0:= .int .i64 (IntKind.i64.wrap (q (79+2*k+j)))) kr (fun _=>by kernel_rfl) (by rw [WQ.out])) hS0 ?_
       refine tf 12 (some 66) 104 (#[.int .u8 (k:Int),.int .i64 (j:Int),.int .i64 (c (79+2*k+j))]) (.int .u64 (U (H.rook k j (c (79+2*k+j))))) (fun W=>Below w4.drew.heap.size w4.drew W) (zcc _ _ _ _ HK HJ FC) (fun v1 hR=> ?_)
       have hS1:Sk.Seg v1 ga 1 c∧Sk.Seg v1 gq 0 q∧Below w.heap.size w v1:=Sk.held hS0 hR
       clear hR
       refine⟨hS1,?_⟩
       refine tf 24 (some 78) 104 (#[.int .u8 (k:Int),.int .i64 (j:Int),.int .i64 (q (79+2*k+j))]) (.int .u64 (U (H.rook k j (q (79+2*k+j))))) (fun W=>Below v1.heap.size v1 W) (zcc _ _ _ _ HK HJ FQ) (fun v2 hR=> ?_)
       have hS2:Sk.Seg v2 ga 1 c∧Sk.Seg v2 gq 0 q∧Below w.heap.size w v2:=Sk.held hS1 hR
       clear hR
       refine⟨hS2,?_⟩
       refine wpAnyH_all (rs:=[25]) kr sp (fun j hj=> ?_)
       obtain rfl:j=25:=by simpa using hj
       clear hj
       refine zz 25 (some 79) (.slice (some ⟨v2.heap.size,0,none⟩) 2 2) (v2.alloc (.cells (List.map (fun y=>Value.int .u64 (U y)) [(H.rook k j (c (79+2*k+j))),(H.rook k j (q (79+2*k+j)))]).toArray 23)) kr kr kr kr ?_
       simp only [Act.put,sA,sB,sC]
       have hSb:Sk.Seg (v2.alloc (.cells (List.map (fun y=>Value.int .u64 (U y)) [(H.rook k j (c (79+2*k+j))),(H.rook k j (q (79+2*k+j)))]).toArray 23)) ga 1 c∧Sk.Seg (v2.alloc (.cells (List.map (fun y=>Value.int .u64 (U y)) [(H.rook k j (c (79+2*k+j))),(H.rook k j (q (79+2*k+j)))]).toArray 23)) gq 0 q∧Below w.heap.size w (v2.alloc (.cells (List.map (fun y=>Value.int .u64 (U y)) [(H.rook k j (c (79+2*k+j))),(H.rook k j (q (79+2*k+j)))]).toArray 23)):=Sk.held hS2 bA
       refine⟨hSb,?_⟩
       refine tf 26 (some 80) 102 (#[.int .u64 (U y),.slice (some ⟨v2.heap.size,0,none⟩) 2 2]) (.int .u64 (U (List.foldl bXor y [(H.rook k j (c (79+2*k+j))),(H.rook k j (q (79+2*k+j)))]))) (fun W=>v2.alloc (.cells (List.map (fun y=>Value.int .u64 (U y)) [(H.rook k j (c (79+2*k+j))),(H.rook k j (q (79+2*k+j)))]).toArray 23)=W) (Sk.mixed_lit y [(H.rook k j (c (79+2*k+j))),(H.rook k j (q (79+2*k+j)))] v2 2 rfl dc) (fun v3 hR=> ?_)
       rw [hR]at hSb
       clear hR
       refine⟨hSb,?_⟩
       refine tP 27 0 (.int .u64 (U (List.foldl bXor y [(H.rook k j (c (79+2*k+j))),(H.rook k j (q (79+2*k+j)))]))) hSb ?_
       simp only [Act.put,sA,sC]
       refine wpAnyH_done kr ?_ _
       clear hS0 hS1 hS2
       go_wp2
       exact⟨⟨j+1,by omega,by go_num,by rw [HS2.out];rfl,hSb.2.2⟩,by simp [intOf];omega⟩
      ·obtain rfl:j=2:=by omega
       obtain⟨z1,hz1⟩:∃y,H.chRk c q k z0 2=y:=⟨_,rfl⟩
       rw [hz1]at HZ⊢
       have HB2:=hid hb
       clear hz1 hb hj hl2
       go_wp2
       go_loopw [0,82] (fun v i wr=>∃j:Nat,j≤6∧i= .int .i64 (j:Int)∧v= .int .u64 (U (H.chPk c q k z1 j))∧Below w.heap.size w wr) (fun _ i _=>6-(intOf i).toNat)
       case atStart=>exact⟨0,by omega,rfl,rfl,HB2⟩
       case round=>
        obtain⟨j,hj,rfl,rfl,hb⟩:=hrel
        by_cases hl2:j<6
        ·obtain⟨y,hy⟩:∃y,H.chPk c q k z1 j=y:=⟨_,rfl⟩
         rw [hy]
         have HS2:=hid (show H.chPk c q k z1 (j+1)=bXor (bXor y (H.pocket k j (c (66+6*k+j)))) (H.pocket k j (q (66+6*k+j))) by rw [←hy];rfl)
         have HJ:=hid (show(0:Int)≤(j:Int)∧(j:Int)≤5 by omega)
         have FC:=hid (zp Hc (i:=66+6*k+j) om (H.k_pk k j hlt hl2))
         have FQ:=hid (zp Hq (i:=66+6*k+j) om (H.k_pk k j hlt hl2))
         have WJ:=hid (show IntKind.u8.wrap (j:Int)=(j:Int) by rw [IntKind.wrap_u8];omega)
         clear hy
         go_upto_region 18 with fail
         obtain⟨w4,hw4⟩:∃W,wr=W:=⟨_,rfl⟩
         rw [hw4]at hb⊢
         have hsa:=HC w4 hb
         have hsq:=HQ w4 hb
         clear hw4
         refine wp_region_held (S:=fun W=>Sk.Seg W ga 1 c∧Sk.Seg W gq 0 q∧Below w.heap.size w W) kr ?_
         have hS0:Sk.Seg w4.drew ga 1 c∧Sk.Seg w4.drew gq 0 q∧Below w.heap.size w w4.drew:=⟨hsa,hsq,M.below_drew hb 1⟩
         refine tq 0 85 (.int .u64 (U y)) hS0 ?_
         refine tq 1 86 (.int .u8 (k:Int)) hS0 ?_
         refine tq 2 87 (.int .i64 (j:Int)) hS0 ?_
         refine te 3 (some 88) (.int .u8 (j:Int)) (zo (v0:= .int .u8 (IntKind.u8.wrap (j:Int))) kr (fun _=>by kernel_rfl) (by rw [WJ.out])) hS0 ?_
         refine tq 4 89 (.pointer (some ⟨ga,1,none⟩)) hS0 ?_
         refine tq 5 90 (.int .u8 (k:Int)) hS0 ?_
         refine tq 6 91 (.int .i64 (j:Int)) hS0 ?_
         refine tq 7 92 (.pointer (some ⟨ga,1,none⟩)) hS0 ?_
         refine tq 8 93 (.pointer (some ⟨ga,67,none⟩)) hS0 ?_
         refine te 9 (some 94) (.pointer (some ⟨ga,67+k*6,none⟩)) (zo (v0:= .pointer (some ⟨ga,67+k*6,none⟩)) kr (fun w9=>Sk.exec26 (.tmp 93) (.tmp 90) (n:=k) (off:=67) (k:= .u8) kr kr kr w9 hlt) rfl) hS0 ?_
         refine te 10 (some 95) (.pointer (some ⟨ga,67+k*6+j,none⟩)) (zo (v0:= .pointer (some ⟨ga,67+k*6+j,none⟩)) kr (fun w9=>Sk.exec6 (.tmp 94) (.tmp 91) (n:=j) (off:=67+k*6) (k:= .i64) kr kr kr w9 hl2) rfl) hS0 ?_
         refine te 11 (some 96) (.int .u8 (c (66+6*k+j))) (zt kr 5 (.tmp 95) kr ⟨ga,67+k*6+j,none⟩ kr (fun w9=>zV _ _ w9) (fun w9 h9=>h9.1.at (66+6*k+j) (67+k*6+j) om .u8 (H.k_pk k j hlt hl2) om)) hS0 ?_
         refine tq 13 98 (.int .u8 (k:Int)) hS0 ?_
         refine tq 14 99 (.int .i64 (j:Int)) hS0 ?_
         refine te 15 (some 100) (.int .u8 (j:Int)) (zo (v0:= .int .u8 (IntKind.u8.wrap (j:Int))) kr (fun _=>by kernel_rfl) (by rw [WJ.out])) hS0 ?_
         refine tq 16 101 (.pointer (some ⟨gq,0,none⟩)) hS0 ?_
         refine tq 17 102 (.int .u8 (k:Int)) hS0 ?_
         refine tq 18 103 (.int .i64 (j:Int)) hS0 ?_
         refine tq 19 104 (.pointer (some ⟨gq,0,none⟩)) hS0 ?_
         refine tq 20 105 (.pointer (some ⟨gq,66,none⟩)) hS0 ?_
         refine te 21 (some 106) (.pointer (some ⟨gq,66+k*6,none⟩)) (zo (v0:= .pointer (some ⟨gq,66+k*6,none⟩)) kr (fun w9=>Sk.exec26 (.tmp 105) (.tmp 102) (n:=k) (off:=66) (k:= .u8) kr kr kr w9 hlt) rfl) hS0 ?_
         refine te 22 (some 107) (.pointer (some ⟨gq,66+k*6+j,none⟩)) (zo (v0:= .pointer (some ⟨gq,66+k*6+j,none⟩)) kr (fun w9=>Sk.exec6 (.tmp 106) (.tmp 103) (n:=j) (off:=66+k*6) (k:= .i64) kr kr kr w9 hl2) rfl) hS0 ?_
         refine te 23 (some 108) (.int .u8 (q (66+6*k+j))) (zt kr 5 (.tmp 107) kr ⟨gq,66+k*6+j,none⟩ kr (fun w9=>zV _ _ w9) (fun w9 h9=>h9.2.1.at (66+6*k+j) (66+k*6+j) om .u8 (H.k_pk k j hlt hl2) om)) hS0 ?_
         refine tf 12 (some 97) 105 (#[.int .u8 (k:Int),.int .u8 (j:Int),.int .u8 (c (66+6*k+j))]) (.int .u64 (U (H.pocket k j (c (66+6*k+j))))) (fun W=>Below w4.drew.heap.size w4.drew W) (zbi _ _ _ _ HK HJ FC) (fun v1 hR=> ?_)
         have hS1:Sk.Seg v1 ga 1 c∧Sk.Seg v1 gq 0 q∧Below w.heap.size w v1:=Sk.held hS0 hR
         clear hR
         refine⟨hS1,?_⟩
         refine tf 24 (some 109) 105 (#[.int .u8 (k:Int),.int .u8 (j:Int),.int .u8 (q (66+6*k+j))]) (.int .u64 (U (H.pocket k j (q (66+6*k+j))))) (fun W=>Below v1.heap.size v1 W) (zbi _ _ _ _ HK HJ FQ) (fun v2 hR=> ?_)
         have hS2:Sk.Seg v2 ga 1 c∧Sk.Seg v2 gq 0 q∧Below w.heap.size w v2:=Sk.held hS1 hR
         clear hR
         refine⟨hS2,?_⟩
         refine wpAnyH_all (rs:=[25]) kr sp (fun j hj=> ?_)
         obtain rfl:j=25:=by simpa using hj
         clear hj
         refine zz 25 (some 110) (.slice (some ⟨v2.heap.size,0,none⟩) 2 2) (v2.alloc (.cells (List.map (fun y=>Value.int .u64 (U y)) [(H.pocket k j (c (66+6*k+j))),(H.pocket k j (q (66+6*k+j)))]).toArray 23)) kr kr kr kr ?_
         simp only [Act.put,sA,sB,sC]
         have hSb:Sk.Seg (v2.alloc (.cells (List.map (fun y=>Value.int .u64 (U y)) [(H.pocket k j (c (66+6*k+j))),(H.pocket k j (q (66+6*k+j)))]).toArray 23)) ga 1 c∧Sk.Seg (v2.alloc (.cells (List.map (fun y=>Value.int .u64 (U y)) [(H.pocket k j (c (66+6*k+j))),(H.pocket k j (q (66+6*k+j)))]).toArray 23)) gq 0 q∧Below w.heap.size w (v2.alloc (.cells (List.map (fun y=>Value.int .u64 (U y)) [(H.pocket k j (c (66+6*k+j))),(H.pocket k j (q (66+6*k+j)))]).toArray 23)):=Sk.held hS2 bA
         refine⟨hSb,?_⟩
         refine tf 26 (some 111) 102 (#[.int .u64 (U y),.slice (some ⟨v2.heap.size,0,none⟩) 2 2]) (.int .u64 (U (List.foldl bXor y [(H.pocket k j (c (66+6*k+j))),(H.pocket k j (q (66+6*k+j)))]))) (fun W=>v2.alloc (.cells (List.map (fun y=>Value.int .u64 (U y)) [(H.pocket k j (c (66+6*k+j))),(H.pocket k j (q (66+6*k+j)))]).toArray 23)=W) (Sk.mixed_lit y [(H.pocket k j (c (66+6*k+j))),(H.pocket k j (q (66+6*k+j)))] v2 2 rfl dc) (fun v3 hR=> ?_)
         rw [hR]at hSb
         clear hR
         refine⟨hSb,?_⟩
         refine tP 27 0 (.int .u64 (U (List.foldl bXor y [(H.pocket k j (c (66+6*k+j))),(H.pocket k j (q (66+6*k+j)))]))) hSb ?_
         simp only [Act.put,sA,sC]
         refine wpAnyH_done kr ?_ _
         clear hS0 hS1 hS2
         go_wp2
         exact⟨⟨j+1,by omega,by go_num,by rw [HS2.out];rfl,hSb.2.2⟩,by simp [intOf];omega⟩
        ·obtain rfl:j=6:=by omega
         obtain⟨y,hy⟩:∃y,H.chPk c q k z1 6=y:=⟨_,rfl⟩
         rw [hy]at HZ⊢
         have FC:=hid (zp Hc (i:=84+k) om (H.k_ck k hlt))
         have FQ:=hid (zp Hq (i:=84+k) om (H.k_ck k hlt))
         clear hy hj hl2
         go_upto_region 20 with fail
         obtain⟨w4,hw4⟩:∃W,wr=W:=⟨_,rfl⟩
         rw [hw4]at hb⊢
         have hsa:=HC w4 hb
         have hsq:=HQ w4 hb
         clear hw4
         refine wp_region_held (S:=fun W=>Sk.Seg W ga 1 c∧Sk.Seg W gq 0 q∧Below w.heap.size w W) kr ?_
         have hS0:Sk.Seg w4.drew ga 1 c∧Sk.Seg w4.drew gq 0 q∧Below w.heap.size w w4.drew:=⟨hsa,hsq,M.below_drew hb 1⟩
         refine tq 0 113 (.int .u64 (U y)) hS0 ?_
         refine tq 1 114 (.int .u8 (k:Int)) hS0 ?_
         refine tq 2 115 (.pointer (some ⟨ga,1,none⟩)) hS0 ?_
         refine tq 3 116 (.int .u8 (k:Int)) hS0 ?_
         refine tq 4 117 (.pointer (some ⟨ga,1,none⟩)) hS0 ?_
         refine tq 5 118 (.pointer (some ⟨ga,85,none⟩)) hS0 ?_
         refine te 6 (some 119) (.pointer (some ⟨ga,85+k,none⟩)) (zo (v0:= .pointer (some ⟨ga,85+k,none⟩)) kr (fun w9=>Sk.exec2u (.tmp 118) (.tmp 116) (n:=k) (off:=85) (k:= .u8) kr kr kr w9 hlt) rfl) hS0 ?_
         refine te 7 (some 120) (.int .u8 (c (84+k))) (zt kr 5 (.tmp 119) kr ⟨ga,85+k,none⟩ kr (fun w9=>zV _ _ w9) (fun w9 h9=>h9.1.at (84+k) (85+k) om .u8 (H.k_ck k hlt) om)) hS0 ?_
         refine tq 9 122 (.int .u8 (k:Int)) hS0 ?_
         refine tq 10 123 (.pointer (some ⟨gq,0,none⟩)) hS0 ?_
         refine tq 11 124 (.int .u8 (k:Int)) hS0 ?_
         refine tq 12 125 (.pointer (some ⟨gq,0,none⟩)) hS0 ?_
         refine tq 13 126 (.pointer (some ⟨gq,84,none⟩)) hS0 ?_
         refine te 14 (some 127) (.pointer (some ⟨gq,84+k,none⟩)) (zo (v0:= .pointer (some ⟨gq,84+k,none⟩)) kr (fun w9=>Sk.exec2u (.tmp 126) (.tmp 124) (n:=k) (off:=84) (k:= .u8) kr kr kr w9 hlt) rfl) hS0 ?_
         refine te 15 (some 128) (.int .u8 (q (84+k))) (zt kr 5 (.tmp 127) kr ⟨gq,84+k,none⟩ kr (fun w9=>zV _ _ w9) (fun w9 h9=>h9.2.1.at (84+k) (84+k) om .u8 (H.k_ck k hlt) om)) hS0 ?_
         refine tf 8 (some 121) 106 (#[.int .u8 (k:Int),.int .u8 (c (84+k))]) (.int .u64 (U (H.checks k (c (84+k))))) (fun W=>Below w4.drew.heap.size w4.drew W) (zbh _ _ _ HK FC) (fun v1 hR=> ?_)
         have hS1:Sk.Seg v1 ga 1 c∧Sk.Seg v1 gq 0 q∧Below w.heap.size w v1:=Sk.held hS0 hR
         clear hR
         refine⟨hS1,?_⟩
         refine tf 16 (some 129) 106 (#[.int .u8 (k:Int),.int .u8 (q (84+k))]) (.int .u64 (U (H.checks k (q (84+k))))) (fun W=>Below v1.heap.size v1 W) (zbh _ _ _ HK FQ) (fun v2 hR=> ?_)
         have hS2:Sk.Seg v2 ga 1 c∧Sk.Seg v2 gq 0 q∧Below w.heap.size w v2:=Sk.held hS1 hR
         clear hR
         refine⟨hS2,?_⟩
         refine wpAnyH_all (rs:=[17]) kr sp (fun j hj=> ?_)
         obtain rfl:j=17:=by simpa using hj
         clear hj
         refine zz 17 (some 130) (.slice (some ⟨v2.heap.size,0,none⟩) 2 2) (v2.alloc (.cells (List.map (fun y=>Value.int .u64 (U y)) [(H.checks k (c (84+k))),(H.checks k (q (84+k)))]).toArray 23)) kr kr kr kr ?_
         simp only [Act.put,sA,sB,sC]
         have hSb:Sk.Seg (v2.alloc (.cells (List.map (fun y=>Value.int .u64 (U y)) [(H.checks k (c (84+k))),(H.checks k (q (84+k)))]).toArray 23)) ga 1 c∧Sk.Seg (v2.alloc (.cells (List.map (fun y=>Value.int .u64 (U y)) [(H.checks k (c (84+k))),(H.checks k (q (84+k)))]).toArray 23)) gq 0 q∧Below w.heap.size w (v2.alloc (.cells (List.map (fun y=>Value.int .u64 (U y)) [(H.checks k (c (84+k))),(H.checks k (q (84+k)))]).toArray 23)):=Sk.held hS2 bA
         refine⟨hSb,?_⟩
         refine tf 18 (some 131) 102 (#[.int .u64 (U y),.slice (some ⟨v2.heap.size,0,none⟩) 2 2]) (.int .u64 (U (List.foldl bXor y [(H.checks k (c (84+k))),(H.checks k (q (84+k)))]))) (fun W=>v2.alloc (.cells (List.map (fun y=>Value.int .u64 (U y)) [(H.checks k (c (84+k))),(H.checks k (q (84+k)))]).toArray 23)=W) (Sk.mixed_lit y [(H.checks k (c (84+k))),(H.checks k (q (84+k)))] v2 2 rfl dc) (fun v3 hR=> ?_)
         rw [hR]at hSb
         clear hR
         refine⟨hSb,?_⟩
         refine tP 19 0 (.int .u64 (U (List.foldl bXor y [(H.checks k (c (84+k))),(H.checks k (q (84+k)))]))) hSb ?_
         simp only [Act.put,sA,sC]
         refine wpAnyH_done kr ?_ _
         clear hS0 hS1 hS2
         go_wp2
         exact⟨⟨k+1,by omega,by go_num,by rw [HZ.out];rfl,hSb.2.2⟩,by simp [intOf];omega⟩
    ·obtain rfl:k=2:=by omega
     obtain⟨y,hy⟩:∃y,H.chCols c q x0 2=y:=⟨_,rfl⟩
     rw [hy]
     have HE:=hid (show H.changed c q x=bXor (bXor (bXor (bXor (bXor y (H.turn (c 78))) (H.turn (q 78))) (H.passing (c 83))) (H.passing (q 83))) (H.promoted (bXor (A.bs (c 65)) (A.bs (q 65)))) by unfold H.changed;rw [HX.out,hy])
     have FC:=hid (H.p_i8 Hc (i:=83) dc rfl)
     have FQ:=hid (H.p_i8 Hq (i:=83) dc rfl)
     have WC:=hid (Sk.w_i8 FC)
     have WQ:=hid (Sk.w_i8 FQ)
     clear hy hk hlt
     go_upto_region 21 with fail
     obtain⟨w4,hw4⟩:∃W,wr=W:=⟨_,rfl⟩
     rw [hw4]at hb⊢
     have hsa:=HC w4 hb
     have hsq:=HQ w4 hb
     clear hw4
     refine wp_region_held (S:=fun W=>Sk.Seg W ga 1 c∧Sk.Seg W gq 0 q∧Below w.heap.size w W) kr ?_
     have hS0:Sk.Seg w4.drew ga 1 c∧Sk.Seg w4.drew gq 0 q∧Below w.heap.size w w4.drew:=⟨hsa,hsq,M.below_drew hb 1⟩
     refine tq 0 132 (.int .u64 (U y)) hS0 ?_
     refine tq 1 133 (.pointer (some ⟨ga,1,none⟩)) hS0 ?_
     refine tq 2 134 (.pointer (some ⟨ga,1,none⟩)) hS0 ?_
     refine tq 3 135 (.pointer (some ⟨ga,79,none⟩)) hS0 ?_
     refine te 4 (some 136) (.int .u8 (c (78))) (zt kr 5 (.tmp 135) kr ⟨ga,79,none⟩ kr (fun w9=>zV _ _ w9) (fun w9 h9=>h9.1.at (78) (79) om .u8 rfl om)) hS0 ?_
     refine tq 6 138 (.pointer (some ⟨gq,0,none⟩)) hS0 ?_
     refine tq 7 139 (.pointer (some ⟨gq,0,none⟩)) hS0 ?_
     refine tq 8 140 (.pointer (some ⟨gq,78,none⟩)) hS0 ?_
     refine te 9 (some 141) (.int .u8 (q (78))) (zt kr 5 (.tmp 140) kr ⟨gq,78,none⟩ kr (fun w9=>zV _ _ w9) (fun w9 h9=>h9.2.1.at (78) (78) om .u8 rfl om)) hS0 ?_
     refine tq 11 143 (.pointer (some ⟨ga,1,none⟩)) hS0 ?_
     refine tq 12 144 (.pointer (some ⟨ga,1,none⟩)) hS0 ?_
     refine tq 13 145 (.pointer (some ⟨ga,84,none⟩)) hS0 ?_
     refine te 14 (some 146) (.int .i8 (c (83))) (zt kr 26 (.tmp 145) kr ⟨ga,84,none⟩ kr (fun w9=>zK _ _ w9) (fun w9 h9=>h9.1.at (83) (84) om .i8 rfl om)) hS0 ?_
     refine te 15 (some 147) (.int .i64 (c (83))) (zo (v0:= .int .i64 (IntKind.i64.wrap (c (83)))) kr (fun _=>by kernel_rfl) (by rw [WC.out])) hS0 ?_
     refine tq 17 149 (.pointer (some ⟨gq,0,none⟩)) hS0 ?_
     refine tq 18 150 (.pointer (some ⟨gq,0,none⟩)) hS0 ?_
     refine tq 19 151 (.pointer (some ⟨gq,83,none⟩)) hS0 ?_
     refine te 20 (some 152) (.int .i8 (q (83))) (zt kr 26 (.tmp 151) kr ⟨gq,83,none⟩ kr (fun w9=>zK _ _ w9) (fun w9 h9=>h9.2.1.at (83) (83) om .i8 rfl om)) hS0 ?_
     refine te 21 (some 153) (.int .i64 (q (83))) (zo (v0:= .int .i64 (IntKind.i64.wrap (q (83)))) kr (fun _=>by kernel_rfl) (by rw [WQ.out])) hS0 ?_
     refine tq 23 155 (.pointer (some ⟨ga,1,none⟩)) hS0 ?_
     refine tq 24 156 (.pointer (some ⟨ga,1,none⟩)) hS0 ?_
     refine tq 25 157 (.pointer (some ⟨ga,66,none⟩)) hS0 ?_
     refine te 26 (some 158) (.int .u64 (U (A.bs (c 65)))) (zt kr 23 (.tmp 157) kr ⟨ga,66,none⟩ kr (fun w9=>Sk.load_u64 _ _ w9) (fun w9 h9=>by rw [A.c65 Hc.out];exact h9.1.at 65 (66) om .u64 rfl om)) hS0 ?_
     refine tq 27 159 (.pointer (some ⟨gq,0,none⟩)) hS0 ?_
     refine tq 28 160 (.pointer (some ⟨gq,0,none⟩)) hS0 ?_
     refine tq 29 161 (.pointer (some ⟨gq,65,none⟩)) hS0 ?_
     refine te 30 (some 162) (.int .u64 (U (A.bs (q 65)))) (zt kr 23 (.tmp 161) kr ⟨gq,65,none⟩ kr (fun w9=>Sk.load_u64 _ _ w9) (fun w9 h9=>by rw [A.c65 Hq.out];exact h9.2.1.at 65 (65) om .u64 rfl om)) hS0 ?_
     refine te 31 (some 163) (.int .u64 (U (bXor (A.bs (c 65)) (A.bs (q 65))))) (zo (v0:= .int .u64 (bits .xor .u64 (U (A.bs (c 65))) (U (A.bs (q 65))))) kr (fun _=>by kernel_rfl) (by rw [zeI])) hS0 ?_
     refine tf 5 (some 137) 107 (#[.int .u8 (c (78))]) (.int .u64 (U (H.turn (c (78))))) (fun W=>Below w4.drew.heap.size w4.drew W) (zcm _ _) (fun v1 hR=> ?_)
     have hS1:Sk.Seg v1 ga 1 c∧Sk.Seg v1 gq 0 q∧Below w.heap.size w v1:=Sk.held hS0 hR
     clear hR
     refine⟨hS1,?_⟩
     refine tf 10 (some 142) 107 (#[.int .u8 (q (78))]) (.int .u64 (U (H.turn (q (78))))) (fun W=>Below v1.heap.size v1 W) (zcm _ _) (fun v2 hR=> ?_)
     have hS2:Sk.Seg v2 ga 1 c∧Sk.Seg v2 gq 0 q∧Below w.heap.size w v2:=Sk.held hS1 hR
     clear hR
     refine⟨hS2,?_⟩
     refine tf 16 (some 148) 108 (#[.int .i64 (c (83))]) (.int .u64 (U (H.passing (c (83))))) (fun W=>Below v2.heap.size v2 W) (zaZ _ _) (fun v3 hR=> ?_)
     have hS3:Sk.Seg v3 ga 1 c∧Sk.Seg v3 gq 0 q∧Below w.heap.size w v3:=Sk.held hS2 hR
     clear hR
     refine⟨hS3,?_⟩
     refine tf 22 (some 154) 108 (#[.int .i64 (q (83))]) (.int .u64 (U (H.passing (q (83))))) (fun W=>Below v3.heap.size v3 W) (zaZ _ _) (fun v4 hR=> ?_)
     have hS4:Sk.Seg v4 ga 1 c∧Sk.Seg v4 gq 0 q∧Below w.heap.size w v4:=Sk.held hS3 hR
     clear hR
     refine⟨hS4,?_⟩
     refine tf 32 (some 164) 109 (#[.int .u64 (U (bXor (A.bs (c 65)) (A.bs (q 65))))]) (.int .u64 (U (H.promoted (bXor (A.bs (c 65)) (A.bs (q 65)))))) (fun W=>Below v4.heap.size v4 W) (zbk _ _) (fun v5 hR=> ?_)
     have hS5:Sk.Seg v5 ga 1 c∧Sk.Seg v5 gq 0 q∧Below w.heap.size w v5:=Sk.held hS4 hR
     clear hR
     refine⟨hS5,?_⟩
     refine wpAnyH_all (rs:=[33]) kr sp (fun j hj=> ?_)
     obtain rfl:j=33:=by simpa using hj
     clear hj
     refine zz 33 (some 165) (.slice (some ⟨v5.heap.size,0,none⟩) 5 5) (v5.alloc (.cells (List.map (fun y=>Value.int .u64 (U y)) [(H.turn (c (78))),(H.turn (q (78))),(H.passing (c (83))),(H.passing (q (83))),(H.promoted (bXor (A.bs (c 65)) (A.bs (q 65))))]).toArray 23)) kr kr kr kr ?_
     simp only [Act.put,sA,sB,sC]
     have hSb:Sk.Seg (v5.alloc (.cells (List.map (fun y=>Value.int .u64 (U y)) [(H.turn (c (78))),(H.turn (q (78))),(H.passing (c (83))),(H.passing (q (83))),(H.promoted (bXor (A.bs (c 65)) (A.bs (q 65))))]).toArray 23)) ga 1 c∧Sk.Seg (v5.alloc (.cells (List.map (fun y=>Value.int .u64 (U y)) [(H.turn (c (78))),(H.turn (q (78))),(H.passing (c (83))),(H.passing (q (83))),(H.promoted (bXor (A.bs (c 65)) (A.bs (q 65))))]).toArray 23)) gq 0 q∧Below w.heap.size w (v5.alloc (.cells (List.map (fun y=>Value.int .u64 (U y)) [(H.turn (c (78))),(H.turn (q (78))),(H.passing (c (83))),(H.passing (q (83))),(H.promoted (bXor (A.bs (c 65)) (A.bs (q 65))))]).toArray 23)):=Sk.held hS5 bA
     refine⟨hSb,?_⟩
     refine tf 34 (some 166) 102 (#[.int .u64 (U y),.slice (some ⟨v5.heap.size,0,none⟩) 5 5]) (.int .u64 (U (List.foldl bXor y [(H.turn (c (78))),(H.turn (q (78))),(H.passing (c (83))),(H.passing (q (83))),(H.promoted (bXor (A.bs (c 65)) (A.bs (q 65))))]))) (fun W=>v5.alloc (.cells (List.map (fun y=>Value.int .u64 (U y)) [(H.turn (c (78))),(H.turn (q (78))),(H.passing (c (83))),(H.passing (q (83))),(H.promoted (bXor (A.bs (c 65)) (A.bs (q 65))))]).toArray 23)=W) (Sk.mixed_lit y [(H.turn (c (78))),(H.turn (q (78))),(H.passing (c (83))),(H.passing (q (83))),(H.promoted (bXor (A.bs (c 65)) (A.bs (q 65))))] v5 5 rfl dc) (fun v6 hR=> ?_)
     rw [hR]at hSb
     clear hR
     refine⟨hSb,?_⟩
     refine tq 35 6 (.int .u64 (U (List.foldl bXor y [(H.turn (c (78))),(H.turn (q (78))),(H.passing (c (83))),(H.passing (q (83))),(H.promoted (bXor (A.bs (c 65)) (A.bs (q 65))))]))) hSb ?_
     refine wpAnyH_done kr ?_ _
     clear hS0 hS1 hS2 hS3 hS4 hS5
     go_wp2
     go_ret
     exact⟨ret_int (by rw [HE.out];rfl),hSb.2.2⟩
end
end Go.Proofs.YtbakeajgolhkgaaGreatDoor
