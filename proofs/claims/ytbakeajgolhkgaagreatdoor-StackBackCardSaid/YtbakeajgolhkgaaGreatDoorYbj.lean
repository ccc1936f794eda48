import Derived.Test.YtbakeajgolhkgaaGreatDoorYbg
import Derived.Test.YtbakeajgolhkgaaGreatDoorYbi
import Derived.Test.YtbakeajgolhkgaaGreatDoorZl
set_option maxRecDepth 100000
set_option maxHeartbeats 8000000
open Go.Lib (hid)
namespace Go.Proofs.YtbakeajgolhkgaaGreatDoor
open Go.Proofs.Tryz
open Go.RowKit Go.Sort
theorem Sk.load_sl(p:Addr)(v:Value)(w:World)(h:w.cell? p=some v):(loadVar 92 p).run prog w= .ok v w:=by
 simp [go_sem,h]
theorem Sk.range_below{w w':World}{g:Nat}{l:List Value}(h:w.rangeAt g 1 l)(hg:g<w.heap.size)(hb:Below w.heap.size w w'):w'.rangeAt g 1 l:=fun i u hu=>(hb.cell (p:=⟨g,1+i,none⟩) hg).trans (h i u hu)
theorem Sk.Gm1.below{w w':World}{g n:Nat}{c:Nat→Int}{k:BitVec 64}{v:Value}(h:Sk.Gm1 w g n c k v)(hb:Below w.heap.size w w'):Sk.Gm1 w' g n c k v:=⟨(hb.block g h.lt).trans h.heap⟩
def Sk.stepL(m:Mv)(k:BitVec 64)(lb:Nat):List Value:=M.cell m++[.int .u64 (U k),Sk.undoV lb]
theorem Sk.built_step(f' t' p' d':Int)(c':Bool)(k:BitVec 64)(lb:Nat):prog.built 97 [(0,.agg #[.int .i8 f',.int .i8 t',.int .u8 p',.int .u8 d',.bool c']),(1,.int .u64 (U k)),(2,Sk.undoV lb)]=some (Sk.stepL (f',t',p',d',c') k lb).toArray:=by kernel_rfl
theorem Sk.info_step:(prog.info? 97).map (fun i=>(i.zero,i.size,i.bytes))=some (some (.agg #[.int .i8 0,.int .i8 0,.int .u8 0,.int .u8 0,.bool false,.int .u64 0,.nilFunc]),7,24):=by kernel_rfl
theorem Sk.size_steps:(prog.info? 92).map (·.size)=some 1:=by kernel_rfl
def Sk.St.push(s:Sk.St)(n:Nat)(m:Mv)(q:Nat→Int)(lb:Nat)(F:Nat→Prop):Sk.St:=
 ⟨fun i=>if i=n+1 then q else s.pos i,fun i=>if i=n then m else s.mv i,fun i=>if i=n then lb else s.lb i,fun i=>if i=n then F else s.F i⟩
theorem Sk.push_steps(s:Sk.St)(n:Nat)(m:Mv)(q:Nat→Int)(lb:Nat)(F:Nat→Prop):Sk.stepsC (s.push n m q lb F) (n+1)=Sk.stepsC s n++Sk.stepL m (H.key q) lb:=by
 rw [Sk.stepsC_succ]
 congr 1
 ·refine Sk.stepsC_congr n fun i hi=> ?_
  show M.cell (if i=n then m else s.mv i)++[.int .u64 (U (H.key (if i+1=n+1 then q else s.pos (i+1)))),Sk.undoV (if i=n then lb else s.lb i)]=Sk.stepC s i
  rw [if_neg (show¬i=n by omega),if_neg (show¬i=n by omega),if_neg (show¬i+1=n+1 by omega)]
  rfl
 ·show M.cell (if n=n then m else s.mv n)++[.int .u64 (U (H.key (if n+1=n+1 then q else s.pos (n+1)))),Sk.undoV (if n=n then lb else s.lb n)]=_
  rw [if_pos rfl,if_pos rfl,if_pos rfl]
  rfl
theorem Sk.At.push{base:Nat}{w W:World}{g n:Nat}{s:Sk.St}(h:Sk.At base w g s n)(hk:Sk.Kg base w W)(m:Mv)(q:Nat→Int)(lb:Nat)(F:Nat→Prop)(v:Value)(hq:PosOk q)
  (hF:Sk.Foot base F W) (hU:Sk.Undo (s.pos n) q lb F W) (hg:W.heap[g]? =some (.cells (Sk.gameC q (H.key (s.pos 0)) v) 94 (0,0)))
  (hown:W.ownsRow base 97 7 v (n+1) (Sk.stepsC s n++Sk.stepL m (H.key q) lb)):Sk.At base W g (s.push n m q lb F) (n+1):=by
 refine⟨h.lt,fun i hi=> ?_,fun i hi=> ?_,fun i hi=> ?_,v,?_,?_⟩
 ·show PosOk (if i=n+1 then q else s.pos i)
  split
  ·exact hq
  ·exact h.ok i om
 ·show Sk.Foot base (if i=n then F else s.F i) W
  split
  ·exact hF
  ·exact((h.foot i om).kg hk).1
 ·show Sk.Undo (if i=n+1 then q else s.pos i) (if i+1=n+1 then q else s.pos (i+1)) (if i=n then lb else s.lb i) (if i=n then F else s.F i) W
  rw [if_neg (show¬i=n+1 by omega)]
  by_cases e:i=n
  ·subst e
   rw [if_pos rfl,if_pos rfl,if_pos rfl]
   exact hU
  ·rw [if_neg (show¬i+1=n+1 by omega),if_neg e,if_neg e]
   exact(h.undo i om).same ((h.foot i om).kg hk).2
 ·show W.heap[g]? =some (.cells (Sk.gameC (if n+1=n+1 then q else s.pos (n+1)) (H.key (if 0=n+1 then q else s.pos 0)) v) _ _)
  rw [if_pos rfl,if_neg (show¬0=n+1 by omega)]
  exact hg
 ·rw [Sk.push_steps];exact hown
theorem Sk.cut2{α β:Type}{F G:α→β→Prop}{R:Prop}(h:∀a b,F a b→G a b)(k:(∀a b,F a b→G a b)→R):R:=k h
theorem Sk.cut6{α β γ δ ε ζ:Type}{F G:α→β→γ→δ→ε→ζ→Prop}{R:Prop}(h:∀a b c d e f,F a b c d e f→G a b c d e f)(k:(∀a b c d e f,F a b c d e f→G a b c d e f)→R):R:=k h
theorem A.wipe_0:∀(l:List Nat) (q:Nat→Int),A.wipe q l 0=q 0:=fun l q=>A.wipe_bd l 0 q fun x _=>by omega
theorem A.after_var(c:Nat→Int)(m:Mv)(t:Int):A.after c m t 0=c 0:=by
 unfold A.after
 rw [A.turn_bd _ _ om,A.clocks_bd _ _ _ _ _ om,A.pass_bd _ _ _ _ om,A.rights_bd _ _ _ _ _ om]
 have hb:∀q m t,A.blow q m t 0=q 0:=fun q m t=>by
  unfold A.blow
  split
  ·rfl
  ·exact A.wipe_0 _ _
 rw [hb,A.pocket_bd _ _ _ _ _ om,A.men_0]
theorem Sk.exec_ld{ev:Operand→Value}{o:Oper}{p:Addr}{v:Value}{w:World}(x:Operand)(ho:o.op= .load 92 x)(hx:ev x= .pointer (some p))(h:w.cell? p=some v):(execOp ev o).run prog w= .ok (.value v) w:=by
 unfold execOp
 simp only [ho,hx,Instr.loadAt,Instr.sureAddr,Sem.run_bind,Sem.run_pure,Result.andThen_ok,Sk.load_sl _ _ _ h]
theorem Sk.wpOp_callE{P:Program}{ops:Array Oper}{Q:Exit→Act→World→Prop}{a:Act}{w:World}{K:Act→World→Prop}(i:Nat)(d:Option Tmp)(f:FuncId)(args:Array Value)(R:Value→World→Prop)(ho:Nat.blt i ops.size=true)(hw:Region.wanted (ops.getD i default) (yielded ops a.tmps)=true)
  (hd:(ops.getD i default).dst=d) (he:(execOp a.eval (ops.getD i default)).run P w= .ok (.enter f args) w)
  (hc:Calls P f args w fun e w'=>∃v,e= .returned v∧R v w') (h:∀v w',R v w'→K (a.put d v) w'):wpOp P ops Q i K a w:=by
 refine zhE i ho hw ?_
 unfold Oper.wp
 rw [he]
 show Calls P f args w _
 refine hc.mono ?_
 rintro e w' ⟨v,rfl,hR⟩
 rw [hd]
 exact h v w' hR
section
variable {P:Program} {ops:Array Oper} {Q:Exit→Act→World→Prop} {md:Region.Mode} {S:World→Prop} {fuel:Nat} {listed:Array Bool} {a:Act} {w:World}
theorem Sk.takeStore(i:Nat)(ty:TypeId)(x y:Operand)(b o:Nat)(cells:Array Value)(ho:Nat.blt i ops.size=true)(hr:Region.ready md ops listed=[i])(hw:Region.wanted (ops.getD i default) (yielded ops a.tmps)=true)(hd:(ops.getD i default).dst=none)
  (hop:(ops.getD i default).op= .store ty x y) (hx:a.eval x= .pointer (some ⟨b,o,none⟩)) (hy:a.eval y= .agg cells) (ht:w.there b o cells.size) (hi:(P.info? ty).map (·.size)=some cells.size) (h1:cells.all (·.oneCell')=true)
  (h:S (w.setCells b o cells.toList)∧wpAnyH P md ops Q S fuel (listed.setIfInBounds i true) a (w.setCells b o cells.toList)):wpAnyH P md ops Q S (fuel+1) listed a w:=by
 refine takeOne i ho hr hw (wp_store_mid ty x y hop b o cells hx hy ht hi h1 ?_)
 rw [hd]
 exact h
theorem Sk.takeStore1(i:Nat)(ty:TypeId)(x y:Operand)(b o:Nat)(v:Value){T:TypeId}{cs:Array Value}(ho:Nat.blt i ops.size=true)(hr:Region.ready md ops listed=[i])(hw:Region.wanted (ops.getD i default) (yielded ops a.tmps)=true)(hd:(ops.getD i default).dst=none)
  (hop:(ops.getD i default).op= .store ty x y) (hx:a.eval x= .pointer (some ⟨b,o,none⟩)) (hy:a.eval y=v) (hp:RowAt w b T cs) (hoc:o<cs.size) (hi:(P.info? ty).map (·.size)=some 1) (h1:v.oneCell'=true)
  (h:S (w.setCells b o [v])∧wpAnyH P md ops Q S fuel (listed.setIfInBounds i true) a (w.setCells b o [v])):wpAnyH P md ops Q S (fuel+1) listed a w:=by
 refine takeOne i ho hr hw ?_
 unfold Oper.wp execOp
 simp only [hop,hx,hy,Instr.storeAt,Instr.sureAddr,Sem.run_bind,Sem.run_pure,Result.andThen_ok,zas o ty v h1 hp hoc hi]
 show S _∧wpAnyH P md ops Q S fuel _ (a.put (ops.getD i default).dst undef) _
 rw [hd]
 exact h
theorem Sk.takeAppend(i:Nat)(d:Option Tmp)(s x:Operand)(t:TypeId)(base:Nat)(e:TypeId)(i0:TypeInfo)(z:Value)(size bytes:Nat)(ho:Nat.blt i ops.size=true)(hr:Region.ready md ops listed=[i])(hw:Region.wanted (ops.getD i default) (yielded ops a.tmps)=true)(hd:(ops.getD i default).dst=d)
  (hop:(ops.getD i default).op= .call {callee:= .builtin .append,args:= #[s,x],argTypes:= #[t,t]}) (ht:P.underlying t=some (.slice e)) (hi:P.info? e=some i0) (hz:i0.zero=some z)
  (hsize:i0.size=size) (hby:i0.bytes=bytes) (hzs:z.cells.size=size) (hsz:0<size)
  (v:Value) (n:Nat) (xs:List Value) (hs:a.eval s=v) (hown:w.ownsRow base e size v n xs)
  (ad:Addr) (m c:Nat) (news:List Value) (hx:a.eval x= .slice (some ad) m c) (hl:news.length=m*size) (hnews:∀(j:Nat) u,news[j]? =some u→w.cell? (ad.add j)=some u) (h1:∀u∈news,u.oneCell'=true)
  (h63:n+m≤maxLen) (hbytes:(n+m)*bytes≤140737488355328) (hbase:base≤w.heap.size)
  (h:∀v' w',w'.ownsRow base e size v' (n+m) (xs++news)→w.grownBy w' v.ownBlock→S w'∧wpAnyH P md ops Q S fuel (listed.setIfInBounds i true) (a.put d v') w'):wpAnyH P md ops Q S (fuel+1) listed a w:=
 takeOne i ho hr hw (wp_append_own w s x t hop base e i0 z size bytes ht hi hz hsize hby hzs hsz v n xs hs hown ad m c news hx hl hnews h1 h63 hbytes hbase fun v' w' h2 h3 _=>by rw [hd];exact h v' w' h2 h3)
end
theorem Sk.stepL_one(m:Mv)(k:BitVec 64)(lb:Nat):∀u∈Sk.stepL m k lb,u.oneCell'=true:=by
 intro u hu
 simp [Sk.stepL,M.cell]at hu
 rcases hu with rfl|rfl|rfl|rfl|rfl|rfl|rfl<;>rfl
theorem Sk.gm_own{base:Nat}{w:World}{v:Value}{n:Nat}{xs:List Value}(h:w.ownsRow base 97 7 v n xs):∀k,v.ownBlock=some k→Sk.Gm base w k:=fun _ hk=>(Sk.own_gm h hk).1
theorem Sk.make_app{base g n qb mb lb:Nat}{W6 w10 w11:World}{c q:Nat→Int}{ky:BitVec 64}{v v':Value}{F:Nat→Prop}{cs:Array Value}{xs ys:List Value}(hb:Below W6.heap.size W6 w10)(hG:Sk.Gm1 w10 g n c ky v)(hm:RowAt w10 mb 47 cs)(hq:PosAt w10 qb q)
  (h0:W6.ownsRow base 97 7 v n xs) (hF:Sk.Foot base F w10) (hU:Sk.Undo c q lb F w10) (hown:w11.ownsRow base 97 7 v' (n+1) ys) (hg:w10.grownBy w11 v.ownBlock):
  Sk.Gm1 w11 g n c ky v∧RowAt w11 mb 47 cs∧PosAt w11 qb q∧w11.ownsRow base 97 7 v' (n+1) ys∧Sk.Foot base F w11∧Sk.Undo c q lb F w11∧Sk.Kg base w10 w11:=by
 have h1:=zq h0 hb
 have hk:Sk.Kg base w10 w11:=But.of_grown' hg (Sk.gm_own h1)
 exact⟨⟨(hG.row.grown hg (Sk.own_ne h1 hG.row dc)).heap⟩,⟨hk.block hm.heap dc dc⟩,⟨hk.block hq.heap dc dc⟩,hown,(hF.kg hk).1,hU.same (hF.kg hk).2,hk⟩
theorem Sk.make_put{base g n qb mb lb g2 cap2:Nat}{w10 w11:World}{c q:Nat→Int}{ky:BitVec 64}{v:Value}{F:Nat→Prop}{cs:Array Value}{ys:List Value}(hgb:base≤g)(hG:Sk.Gm1 w11 g n c ky v)(hm:RowAt w11 mb 47 cs)(hq:PosAt w11 qb q)
  (hown:w11.ownsRow base 97 7 (.slice (some ⟨g2,0,none⟩) (n+1) cap2) (n+1) ys) (hF:Sk.Foot base F w11) (hU:Sk.Undo c q lb F w11) (hk:Sk.Kg base w10 w11):
  let W:=w11.setCells g 90 [.slice (some ⟨g2,0,none⟩) (n+1) cap2]
  Sk.Gm1 W g n c ky (.slice (some ⟨g2,0,none⟩) (n+1) cap2)∧RowAt W mb 47 cs∧PosAt W qb q∧W.ownsRow base 97 7 (.slice (some ⟨g2,0,none⟩) (n+1) cap2) (n+1) ys∧Sk.Foot base F W∧Sk.Undo c q lb F W∧Sk.Kg base w10 W:=by
 intro W
 have hP:Put g w11 W:=Lg.put_setCellsL g _ _ _
 have hk2:Sk.Kg base w11 W:=But.of_put hP ⟨hgb,_,_,_,hG.heap,.inl rfl⟩
 refine⟨⟨?_⟩,⟨hk2.block hm.heap dc dc⟩,⟨hk2.block hq.heap dc dc⟩,hP.owns hown (fun e=>Sk.own_ne hown hG.row dc _ e rfl),(hF.kg hk2).1,hU.same (hF.kg hk2).2,hk.trans hk2⟩
 exact(Lg.heap_setCellsO g _ [_] 90 w11 _ hG.heap).trans (by
  show some (Obj.cells ((Sk.gameC c ky v).setIfInBounds 90 _) _ _)=_
  rw [Sk.gameC_set])
theorem Sk.make_end{base g n lb g2 cap2:Nat}{w w1 W12 W13:World}{s:Sk.St}{c q:Nat→Int}{ky:BitVec 64}{F:Nat→Prop}{m:Mv}(h:Sk.At base w g s n)(hcc:s.pos n=c)(hky:H.key (s.pos 0)=ky)(hnx:G.next c m=q)(hqo:PosOk q)(hw:Sk.Kg base w w1)
  (hG:Sk.Gm1 W12 g n c ky (.slice (some ⟨g2,0,none⟩) (n+1) cap2)) (hown:W12.ownsRow base 97 7 (.slice (some ⟨g2,0,none⟩) (n+1) cap2) (n+1) (Sk.stepsC s n++Sk.stepL m (H.changed c q (H.key (s.pos n))) lb))
  (hF:Sk.Foot base F W12) (hU:Sk.Undo c q lb F W12) (hk:Sk.Kg base w1 W12) (hP:Put g W12 W13) (hr:W13.heap[g]? =some (.cells (Lg.setSeg (Sk.gameC c ky (.slice (some ⟨g2,0,none⟩) (n+1) cap2)) 1 (posC q).toList) 94 (0,0))):
  Sk.At base W13 g (s.push n m (G.next c m) lb F) (n+1)∧Sk.Kg base w W13:=by
 have hk2:Sk.Kg base W12 W13:=But.of_put hP ⟨h.lt,_,_,_,hG.heap,.inl rfl⟩
 have hkk:=(hw.trans hk).trans hk2
 have hch:H.changed c q (H.key (s.pos n))=H.key q:=by rw [hcc];exact H.changed_key c q (by rw [←hnx];exact A.after_var _ _ _)
 rw [hch]at hown
 refine⟨?_,hkk⟩
 rw [hnx]
 refine h.push hkk m q lb F _ hqo (hF.kg hk2).1 (by rw [hcc];exact hU.same (hF.kg hk2).2) ?_ (hP.owns hown (fun e=>Sk.own_ne hown hG.row dc _ e rfl))
 rw [hky]
 exact hr.trans (by rw [show Lg.setSeg (Sk.gameC c ky (.slice (some ⟨g2,0,none⟩) (n+1) cap2)) 1 (posC q).toList=Sk.gameC q ky _ from Sk.gameC_in c q ky _])
theorem Sk.there_pos{W:World}{b:Nat}{cs:Array Value}{q:Nat→Int}(h:RowAt W b 31 cs)(hs:cs.size=88):W.there b 0 (posC q).size:=fun j hj=>by
 rw [zC]at hj
 refine⟨?_,by rw [Nat.zero_add];exact h.frozen j⟩
 rw [Nat.zero_add,h.cell j,Array.getElem?_eq_getElem om]
 rfl
theorem Sk.box_stored{w3 W:World}{b:Nat}{cs:Array Value}(q:Nat→Int)(h:Below w3.heap.size w3 W)(hr:RowAt W b 31 cs)(hs:cs.size=88)(hb:w3.heap.size≤b):Below w3.heap.size w3 (W.setCells b 0 (posC q).toList)∧PosAt (W.setCells b 0 (posC q).toList) b q:=by
 refine⟨(Lg.put_setCellsL b _ _ _).below h hb,⟨?_⟩⟩
 have e:Lg.setSeg cs 0 (posC q).toList=posC q:=Array.ext_getElem? fun i=>by
  rw [Lg.setSeg_get,Sk.posC_len]
  by_cases hi:i<88
  ·rw [if_pos om,Nat.sub_zero,Array.getElem?_toList]
  ·rw [if_neg om,Array.getElem?_eq_none om,Array.getElem?_eq_none (by rw [zC];omega)]
 exact(Lg.heap_setCellsO b _ _ _ _ _ hr.heap).trans (by rw [e])
def Sk.MakeEnd(base g:Nat)(s:Sk.St)(n:Nat)(m:Mv)(w:World)(e:Ending)(w':World):Prop:=
 if(G.outcome (s.pos n)).1≠0 then e= .returned (.int .i64 190)∧Below w.heap.size w w'
 else if m∈G.list (s.pos n)then e= .returned (.int .i64 0)∧∃lb F,Sk.At base w' g (s.push n m (G.next (s.pos n) m) lb F) (n+1)∧Sk.Kg base w w'
 else e= .returned (.int .i64 170)∧Below w.heap.size w w'
def Sk.MakeEnd2(base g:Nat)(s:Sk.St)(n:Nat)(m:Mv)(w:World)(e:Ending)(w':World):Prop:=
 if(G.outcome (s.pos n)).1≠0 then e= .returned (.int .i64 190)∧Below w.heap.size w w'
 else if m∈G.list (s.pos n)then e= .returned (.int .i64 0)∧∃lb F,(∀b,F b→w.heap.size≤b)∧Sk.At base w' g (s.push n m (G.next (s.pos n) m) lb F) (n+1)∧Sk.Kg base w w'
 else e= .returned (.int .i64 170)∧Below w.heap.size w w'
theorem Sk.MakeEnd2.old{base g n:Nat}{s:Sk.St}{m:Mv}{w w':World}{e:Ending}(h:Sk.MakeEnd2 base g s n m w e w'):Sk.MakeEnd base g s n m w e w':=by
 unfold Sk.MakeEnd2 at h
 unfold Sk.MakeEnd
 split
 ·rw [if_pos asm]at h;exact h
 ·rw [if_neg asm]at h
  split
  ·rw [if_pos asm]at h;obtain⟨h1,lb,F,_,h2,h3⟩:=h;exact⟨h1,lb,F,h2,h3⟩
  ·rw [if_neg asm]at h;exact h
theorem gmake2_any(base:Nat)(w:World)(g:Nat)(s:Sk.St)(n:Nat)(m:Mv)(h:Sk.At base w g s n)(hN:n≤1000)(hT:Tb w)(hbase:base≤w.heap.size):Calls prog 15 #[.pointer (some ⟨g,0,none⟩),.agg (M.cell m).toArray] w (Sk.MakeEnd2 base g s n m w):=by
 obtain⟨f',t',p',d',c'⟩:=m
 obtain⟨v,hG0,hown0⟩:=h.open'
 obtain⟨ao,cap,hv⟩:=Sk.own_slice hown0
 have Hat:=hid h
 have hc:=h.ok n (Nat.le_refl _)
 obtain⟨c,hcc⟩:∃c,s.pos n=c:=⟨_,rfl⟩
 obtain⟨ky,hky⟩:∃k,H.key (s.pos 0)=k:=⟨_,rfl⟩
 rw [hcc,hky]at hG0
 rw [hcc]at hc
 obtain⟨mb,hmb⟩:∃x,w.heap.size=x:=⟨_,rfl⟩
 have hb0:Below w.heap.size w (w.alloc (.cells #[.int .i8 f',.int .i8 t',.int .u8 p',.int .u8 d',.bool c'] 47)):=bA
 have hm0:=RowAt.new w #[.int .i8 f',.int .i8 t',.int .u8 p',.int .u8 d',.bool c'] 47
 obtain⟨W1,hW1⟩:∃W,w.alloc (.cells #[.int .i8 f',.int .i8 t',.int .u8 p',.int .u8 d',.bool c'] 47)=W:=⟨_,rfl⟩
 rw [hW1]at hb0 hm0
 rw [hmb]at hm0
 have hG:=hG0.below hb0
 have HOw:=hid (zq hown0 hb0)
 have Hbase:=hid (show base≤w.heap.size from hbase)
 have HT:=hid (fun W (hb:Below w.heap.size w W)=>zi hT hb)
 have HO:=hid (fun W h=>oof_of c W hc h)
 obtain⟨os,oy,ho⟩:∃s y,G.outcome c=(s,y):=⟨_,_,rfl⟩
 replace HO:Hid (∀W,Tb W→cB 16 #[.agg (posC c)] W (.agg #[.int .u8 os,.int .u8 oy])):=hid (fun W h=>by have:=HO W h;rw [ho]at this;exact this)
 obtain⟨il,hil⟩:∃b,decide ((f',t',p',d',c')∈G.list c)=b:=⟨_,rfl⟩
 have HI:=hid (fun W h=>hil▸ziQ c (f',t',p',d',c') W hc h)
 have HM:=hid (fun W h (hl:il=true)=>zdb c (f',t',p',d',c') W hc h (G.list_sub (of_decide_eq_true (hil.trans hl))))
 have Hq:=hid (fun(hl:il=true)=>A.after_ok c (f',t',p',d',c') hc (G.list_sub (of_decide_eq_true (hil.trans hl))))
 have HE:Hid (∀e w',(if os≠0 then e= .returned (.int .i64 190)∧Below w.heap.size w w' else if il=true then e= .returned (.int .i64 0)∧∃lb F,(∀b,F b→w.heap.size≤b)∧Sk.At base w' g (s.push n (f',t',p',d',c') (G.next c (f',t',p',d',c')) lb F) (n+1)∧Sk.Kg base w w' else e= .returned (.int .i64 170)∧Below w.heap.size w w')→Sk.MakeEnd2 base g s n (f',t',p',d',c') w e w'):=hid (fun e w' hh=>by
  unfold Sk.MakeEnd2
  rw [hcc,ho]
  by_cases h1:os≠0
  ·rw [if_pos h1]at hh⊢;exact hh
  ·rw [if_neg h1]at hh⊢
   by_cases h2:(f',t',p',d',c')∈G.list c
   ·rw [if_pos (show il=true by rw [←hil];exact decide_eq_true h2)]at hh;rw [if_pos h2];exact hh
   ·rw [if_neg (show¬il=true by rw [←hil];simpa using h2)]at hh;rw [if_neg h2];exact hh)
 have Hc:=hid hc
 have Hcc:=hid hcc
 have Hky:=hid hky
 have hfd:=Lg.field0 os oy
 have c0:=hG.made
 have c90:=hG.steps
 have hrg:=hG.range
 rw [hv]at c90
 have hn2:(n:Int)<1024:=by omega
 have Hv:=hid hv
 have hgl:=hG.lt
 clear h hG0 hown0 hT hbase hcc hky ho hil hc hv hN
 unfold M.cell
 go_enter func15,ntmps15
 go_upto_region 5 with(go_at_call 45;refine(zat g _ c0).mono ?_;rintro e w' ⟨rfl,rfl⟩)
 clear hmb
 by_cases hs:os=0
 case neg=>
  have hs':(os !=0)=true:=by rw [bne_iff_ne];exact hs
  have HG:=hid hs
  clear hs
  go_wp2_with (first
   |(refine wpList_load_mid rfl 31 _ rfl g 1 rfl (posC c).toList _ hrg underlying31 rfl (zr c) ?_)
   |(go_at_call 16;refine(HO _ (HT _ hb0)).mono ?_;rintro e w2 ⟨rfl,hb2⟩;replace hb0:=za hb0 hb2;clear hb2))
  go_ret
  exact HE _ _ (by rw [if_pos HG.out];exact⟨rfl,hb0⟩)
 case pos=>
  subst hs
  go_upto_region 7 with(first
   |(refine wpList_load_mid rfl 31 _ rfl g 1 rfl (posC c).toList _ hrg underlying31 rfl (zr c) ?_)
   |(go_at_call 16;refine(HO _ (HT _ hb0)).mono ?_;rintro e w2 ⟨rfl,hb2⟩))
  replace hG:=hG.below hb2
  replace hm0:=hm0.below hb2
  have HOw2:=hid (zq HOw hb2)
  replace hb0:=za hb0 hb2
  replace hgl:=hG.lt
  replace hrg:=hG.range
  clear hb2 c0 c90 HOw hW1
  refine wp_region_held (S:=fun W=>Below w2.heap.size w2 W) kr ?_
  have hS:Below w2.heap.size w2 w2.drew:=(Below.refl _ _).drew
  refine tq 0 26 (.pointer (some ⟨g,0,none⟩)) hS ?_
  refine tq 1 27 (.pointer (some ⟨g,0,none⟩)) hS ?_
  refine tq 2 28 (.pointer (some ⟨g,1,none⟩)) hS ?_
  refine te 3 (some 29) (.agg (posC c)) (yieldsIf_load_mid kr 31 (.tmp 28) kr g 1 kr ((posC c).toList) _ (fun _ h9=>Sk.range_below hrg hgl h9) underlying31 rfl (zr c)) hS ?_
  refine te 4 (some 30) (.agg #[.int .i8 f',.int .i8 t',.int .u8 p',.int .u8 d',.bool c']) (Lg.yi_row kr 47 (.tmp 3) kr mb 47 _ kr underlying47 rfl (Lg.size_mv _ rfl) (fun _ h9=>hm0.below h9)) hS ?_
  refine tf 5 (some 31) 27 (#[.agg (posC c),.agg #[.int .i8 f',.int .i8 t',.int .u8 p',.int .u8 d',.bool c']]) (.bool il) (fun W=>Below w2.drew.heap.size w2.drew W) (HI _ (HT _ (M.below_drew hb0 1))) (fun w3 hb3=> ?_)
  have hS3:Below w2.heap.size w2 w3:=hS.trans (hb3.mono hS.size)
  refine⟨hS3,?_⟩
  refine tq 6 32 (.bool (!il)) hS3 ?_
  refine tq 7 25 (.bool (!il)) hS3 ?_
  refine wpAnyH_done kr ?_ _
  replace hG:=hG.below hS3
  replace hm0:=hm0.below hS3
  have HOw3:=hid (zq HOw2 hS3)
  replace hb0:=za hb0 hS3
  replace hgl:=hG.lt
  replace hrg:=hG.range
  clear hS hS3 hb3 HOw2
  cases il
  case false=>
   go_wp2
   go_ret
   exact HE _ _ (by rw [if_neg sp,if_neg sp];exact⟨rfl,hb0⟩)
  case true=>
   go_upto_region 9 with fail
   refine wp_region_held (S:=fun W=>Below w3.heap.size w3 W) kr ?_
   have hS:Below w3.heap.size w3 w3.drew:=(Below.refl _ _).drew
   obtain⟨q,hq⟩:∃q,G.next c (f',t',p',d',c')=q:=⟨_,rfl⟩
   have HMq:Hid (∀W,Tb W→cB 17 #[.agg (posC c),.agg #[.int .i8 f',.int .i8 t',.int .u8 p',.int .u8 d',.bool c']] W (.tuple #[.agg (posC q),.bool true])):=hid (fun W h=>hq▸HM W h rfl)
   have Hqo:=hid (show PosOk q from hq▸Hq rfl)
   have HNx:=hid hq
   clear hq HM Hq HI HO
   refine Sk.cut2 (F:=fun(qb:Nat) W=>Below w3.heap.size w3 W∧PosAt W qb q∧g≠qb) (G:= ?G) ?rest ?main
   case main=>
    intro key
    refine tq 0 34 (.pointer (some ⟨g,0,none⟩)) hS ?_
    refine tq 1 35 (.pointer (some ⟨g,0,none⟩)) hS ?_
    refine tq 2 36 (.pointer (some ⟨g,1,none⟩)) hS ?_
    refine te 3 (some 37) (.agg (posC c)) (yieldsIf_load_mid kr 31 (.tmp 36) kr g 1 kr ((posC c).toList) _ (fun _ h9=>Sk.range_below hrg hgl h9) underlying31 rfl (zr c)) hS ?_
    refine te 4 (some 38) (.agg #[.int .i8 f',.int .i8 t',.int .u8 p',.int .u8 d',.bool c']) (Lg.yi_row kr 47 (.tmp 3) kr mb 47 _ kr underlying47 rfl (Lg.size_mv _ rfl) (fun _ h9=>hm0.below h9)) hS ?_
    refine wpAnyH_all (rs:=[5,9]) kr sp (fun i hi=> ?_)
    rcases(show i=5∨i=9 by simpa using hi)with rfl|rfl
    ·refine zaf 5 (some 39) 17 (#[.agg (posC c),.agg #[.int .i8 f',.int .i8 t',.int .u8 p',.int .u8 d',.bool c']]) (.tuple #[.agg (posC q),.bool true]) (fun W=>Below w3.drew.heap.size w3.drew W) kr kr kr kr (HMq _ (HT _ (za hb0 hS))) (fun w4 hb4=> ?_)
     simp only [Act.put,sA,sB,sC]
     have hS4:Below w3.heap.size w3 w4:=hS.trans (hb4.mono hS.size)
     refine⟨hS4,?_⟩
     refine tq 6 33 (.tuple #[.agg (posC q),.bool true]) hS4 ?_
     refine tq 7 40 (.agg (posC q)) hS4 ?_
     refine tq 8 41 (.bool true) hS4 ?_
     refine wpAnyH_all (rs:=[9]) kr sp (fun j hj=> ?_)
     obtain rfl:j=9:=by simpa using hj
     clear hj
     refine zz 9 (some 5) (.pointer (some ⟨w4.heap.size,0,none⟩)) (w4.alloc (.cells zeroCells31 31)) kr kr kr kr ?_
     simp only [Act.put,sA,sB,sC]
     have hS4a:Below w3.heap.size w3 (w4.alloc (.cells zeroCells31 31)):=hS4.alloc hS4.size _
     refine⟨hS4a,?_⟩
     have hgr:=RowAt.new w4 zeroCells31 31
     refine Sk.takeStore 10 31 (.tmp 5) (.tmp 40) w4.heap.size 0 (posC q) kr kr kr kr kr kr kr (Sk.there_pos hgr kr) (zr q) (zaG q) ?_
     obtain⟨hS5,hq5⟩:=Sk.box_stored q hS4a hgr kr (by have:=hS4.size;omega)
     refine⟨hS5,?_⟩
     refine tq 11 6 (.bool true) hS5 ?_
     refine wpAnyH_done kr ?_ _
     obtain⟨W5,hW5⟩:∃W,(w4.alloc (.cells zeroCells31 31)).setCells w4.heap.size 0 (posC q).toList=W:=⟨_,rfl⟩
     rw [hW5]at hS5 hq5⊢
     obtain⟨qb,hqb⟩:∃x,w4.heap.size=x:=⟨_,rfl⟩
     rw [hqb]at hq5⊢
     have hqg:g≠qb:=by have:=hS4.size;omega
     exact key qb W5 ⟨hS5,hq5,hqg⟩
    ·refine zz 9 (some 5) (.pointer (some ⟨w3.drew.heap.size,0,none⟩)) (w3.drew.alloc (.cells zeroCells31 31)) kr kr kr kr ?_
     simp only [Act.put,sA,sB,sC]
     have hS4a:Below w3.heap.size w3 (w3.drew.alloc (.cells zeroCells31 31)):=hS.alloc hS.size _
     refine⟨hS4a,?_⟩
     have hgr:=RowAt.new w3.drew zeroCells31 31
     refine tf 5 (some 39) 17 (#[.agg (posC c),.agg #[.int .i8 f',.int .i8 t',.int .u8 p',.int .u8 d',.bool c']]) (.tuple #[.agg (posC q),.bool true]) (fun W=>Below (w3.drew.alloc (.cells zeroCells31 31)).heap.size (w3.drew.alloc (.cells zeroCells31 31)) W) (HMq _ (HT _ (za hb0 hS4a))) (fun w4 hb4=> ?_)
     have hS4:Below w3.heap.size w3 w4:=hS4a.trans (hb4.mono hS4a.size)
     refine⟨hS4,?_⟩
     refine tq 6 33 (.tuple #[.agg (posC q),.bool true]) hS4 ?_
     refine tq 7 40 (.agg (posC q)) hS4 ?_
     refine tq 8 41 (.bool true) hS4 ?_
     replace hgr:=hgr.below hb4
     refine Sk.takeStore 10 31 (.tmp 5) (.tmp 40) w3.drew.heap.size 0 (posC q) kr kr kr kr kr kr kr (Sk.there_pos hgr kr) (zr q) (zaG q) ?_
     obtain⟨hS5,hq5⟩:=Sk.box_stored q hS4 hgr kr (by have:=hS.size;omega)
     refine⟨hS5,?_⟩
     refine tq 11 6 (.bool true) hS5 ?_
     refine wpAnyH_done kr ?_ _
     obtain⟨W5,hW5⟩:∃W,(w4).setCells w3.drew.heap.size 0 (posC q).toList=W:=⟨_,rfl⟩
     rw [hW5]at hS5 hq5⊢
     obtain⟨qb,hqb⟩:∃x,w3.drew.heap.size=x:=⟨_,rfl⟩
     rw [hqb]at hq5⊢
     have hqg:g≠qb:=by have:=hS.size;omega
     exact key qb W5 ⟨hS5,hq5,hqg⟩
   case rest=>
    rintro qb W5 ⟨hS5,hq5,hqg⟩
    replace hG:=hG.below hS5
    replace hm0:=hm0.below hS5
    have HOw5:=hid (zq HOw3 hS5)
    have HB5:=hid (za hb0 hS5)
    have HAt5:=hid (Hat.below HB5)
    clear hb0 hrg hgl HOw3 hS
    go_upto_region 10 with fail
    refine wp_region_held (S:=fun W=>RowAt W mb 47 #[.int .i8 f',.int .i8 t',.int .u8 p',.int .u8 d',.bool c']) kr ?_
    have hS:RowAt W5.drew mb 47 #[.int .i8 f',.int .i8 t',.int .u8 p',.int .u8 d',.bool c']:=⟨hm0.heap⟩
    obtain⟨W6,hW6⟩:∃W,W5.drew=W:=⟨_,rfl⟩
    have hb6:Below W5.heap.size W5 W6:=hW6▸(Below.refl _ _).drew
    show wpAnyH _ _ _ _ _ _ _ _ W5.drew
    rw [hW6]at hS⊢
    replace hG:=hG.below hb6
    have hq6:=hq5.below hb6
    have HOw6:=hid (zq HOw5 hb6)
    have HAt6:=hid (HAt5.below hb6)
    have HB6:=hid (za HB5 hb6)
    clear hW6 hm0 hq5 HOw5 HAt5 hb6
    refine tq 0 42 (.pointer (some ⟨g,0,none⟩)) hS ?_
    refine tq 1 43 (.pointer (some ⟨g,0,none⟩)) hS ?_
    refine tq 2 44 (.pointer (some ⟨g,0,none⟩)) hS ?_
    refine tq 3 45 (.pointer (some ⟨g,90,none⟩)) hS ?_
    refine tq 6 48 (.pointer (some ⟨g,0,none⟩)) hS ?_
    refine tq 8 50 (.pointer (some ⟨g,0,none⟩)) hS ?_
    refine tq 9 51 (.pointer (some ⟨g,0,none⟩)) hS ?_
    refine tq 10 52 (.pointer (some ⟨g,1,none⟩)) hS ?_
    refine tq 12 54 (.pointer (some ⟨g,0,none⟩)) hS ?_
    refine tq 13 55 (.pointer (some ⟨g,0,none⟩)) hS ?_
    refine tq 14 56 (.pointer (some ⟨g,1,none⟩)) hS ?_
    refine te 5 (some 47) (.agg #[.int .i8 f',.int .i8 t',.int .u8 p',.int .u8 d',.bool c']) (Lg.yi_row kr 47 (.tmp 3) kr mb 47 _ kr underlying47 rfl (Lg.size_mv _ rfl) (fun _ h9=>h9)) hS ?_
    have hAt:=HAt6.out
    have hbs:base≤w.heap.size:=Hbase.out
    have hgb:base≤g:=Hat.lt
    obtain⟨i0,hi0,hz0,hz1,hz2⟩:=info_parts Sk.info_step
    refine Sk.cut6 (F:=fun(lb nb g2 cap2:Nat) (F:Nat→Prop) W=>Sk.Gm1 W g n c ky (.slice (some ⟨g2,0,none⟩) (n+1) cap2)∧PosAt W qb q∧W.ownsRow base 97 7 (.slice (some ⟨g2,0,none⟩) (n+1) cap2) (n+1) (Sk.stepsC s n++Sk.stepL (f',t',p',d',c') (H.changed c q (H.key (s.pos n))) lb)∧Sk.Foot base F W∧Sk.Undo c q lb F W∧Sk.Kg base W6 W∧∀b,F b→w.heap.size≤b) (G:= ?G2) ?rest2 ?main2
    case main2=>
     intro key
     refine wpAnyH_all (rs:=[4,7]) kr sp (fun i hi=> ?_)
     rcases(show i=4∨i=7 by simpa using hi)with rfl|rfl
     ·refine zz 4 (some 46) v W6 kr kr kr (Sk.exec_ld (.tmp 45) kr kr (hG.steps)) ?_
      simp only [Act.put,sA,sB,sC]
      refine⟨hS,?_⟩
      refine tf 7 (some 49) 19 (#[.pointer (some ⟨g,0,none⟩)]) (.int .u64 (U (H.key (s.pos n)))) (fun W=>Below W6.heap.size W6 W) (zc1 base W6 g s n HAt6 om) (fun w7 hR=> ?_)
      have hb7:Below W6.heap.size W6 w7:=(Below.refl _ _).trans (hR.mono (Nat.le_refl _))
      have hG7:=hG.below hR
      have hq7:=hq6.below hR
      have hS7:=hS.below hR
      refine⟨hS7,?_⟩
      refine tf 11 (some 53) 46 (#[.int .u64 (U (H.key (s.pos n))),.pointer (some ⟨g,1,none⟩),.pointer (some ⟨qb,0,none⟩)]) (.int .u64 (U (H.changed c q (H.key (s.pos n))))) (fun W=>Below w7.heap.size w7 W) (zbj c q (H.key (s.pos n)) g qb w7 Hc Hqo hG7.seg hq7.seg) (fun w8 hR=> ?_)
      have hb8:Below W6.heap.size W6 w8:=hb7.trans (hR.mono hb7.size)
      have hG8:=hG7.below hR
      have hq8:=hq7.below hR
      have hS8:=hS7.below hR
      refine⟨hS8,?_⟩
      refine takeCallE 15 (some 57) 47 (#[.pointer (some ⟨g,1,none⟩),.pointer (some ⟨qb,0,none⟩)]) (fun x W=>∃lb F,x=Sk.undoV lb∧(∀b,F b→w.heap.size≤b)∧Sk.Foot base F W∧Sk.Undo c q lb F W∧Below w8.heap.size w8 W) kr kr kr kr kr ((zb2 c q base g qb w8 Hc hG8.seg hq8.seg).mono (by rintro e W ⟨lb,F,rfl,h1,h2,h3,h4⟩;exact⟨_,rfl,lb,F,rfl,fun b hb=>Nat.le_trans (Nat.le_trans HB6.size hb8.size) (h1 b hb),h2,h3,h4⟩)) (fun x w9 hR=> ?_)
      obtain⟨lb,F,rfl,hFl,hF9,hU9,hR⟩:=hR
      simp only [Act.put,sA,sB,sC]
      have hb9:Below W6.heap.size W6 w9:=hb8.trans (hR.mono hb8.size)
      have hG9:=hG8.below hR
      have hq9:=hq8.below hR
      have hS9:=hS8.below hR
      refine⟨hS9,?_⟩
      refine te 16 (some 58) (.agg (Sk.stepL (f',t',p',d',c') (H.changed c q (H.key (s.pos n))) lb).toArray) (zo (v0:= .agg (Sk.stepL (f',t',p',d',c') (H.changed c q (H.key (s.pos n))) lb).toArray) kr (fun W=>Sk.exec_build 97 #[(0,.tmp 47),(1,.tmp 53),(2,.tmp 57)] [(0,.agg #[.int .i8 f',.int .i8 t',.int .u8 p',.int .u8 d',.bool c']),(1,.int .u64 (U (H.changed c q (H.key (s.pos n))))),(2,Sk.undoV lb)] _ kr kr (Sk.built_step f' t' p' d' c' _ lb) W) rfl) hS9 ?_
      refine wpAnyH_all (rs:=[17]) kr sp (fun j hj=> ?_)
      obtain rfl:j=17:=by simpa using hj
      clear hj
      refine zz 17 (some 59) (.slice (some ⟨w9.heap.size,0,none⟩) 1 1) (w9.alloc (.cells (Sk.stepL (f',t',p',d',c') (H.changed c q (H.key (s.pos n))) lb).toArray 97)) kr kr kr kr ?_
      simp only [Act.put,sA,sB,sC]
      have hR:Below w9.heap.size w9 (w9.alloc (.cells (Sk.stepL (f',t',p',d',c') (H.changed c q (H.key (s.pos n))) lb).toArray 97)):=bA
      have hl10:=RowAt.new w9 (Sk.stepL (f',t',p',d',c') (H.changed c q (H.key (s.pos n))) lb).toArray 97
      have HF10:=hid (hF9.kg (Sk.Kg.of_below base hR)).1
      have HU10:=hid (hU9.same (hF9.kg (Sk.Kg.of_below base hR)).2)
      obtain⟨w10,hw10⟩:∃W,(w9.alloc (.cells (Sk.stepL (f',t',p',d',c') (H.changed c q (H.key (s.pos n))) lb).toArray 97))=W:=⟨_,rfl⟩
      rw [hw10]at hR hl10 HF10 HU10⊢
      clear hw10
      obtain⟨nb,hnb⟩:∃x,w9.heap.size=x:=⟨_,rfl⟩
      rw [hnb]at hl10⊢
      have hb10:Below W6.heap.size W6 w10:=hb9.trans (hR.mono hb9.size)
      have hG10:=hG9.below hR
      have hq10:=hq9.below hR
      have hS10:=hS9.below hR
      refine⟨hS10,?_⟩
      refine Sk.takeAppend 18 (some 60) (.tmp 46) (.tmp 59) 92 base 97 i0 _ 7 24 kr kr kr kr kr underlying92 hi0 hz0 hz1 hz2 rfl dc v n (Sk.stepsC s n) kr (zq HOw6 hb10) ⟨nb,0,none⟩ 1 1 (Sk.stepL (f',t',p',d',c') (H.changed c q (H.key (s.pos n))) lb) kr rfl (fun j u hu=>by rw [Addr.add_lit,Nat.zero_add];exact(hl10.cell j).trans (by rw [List.getElem?_toArray];exact hu)) (Sk.stepL_one _ _ _) (by unfold maxLen;omega) om (by have:=HB6.size;have:=hb10.size;have:=Hbase.out;omega) ?_
      intro v' w11 hown hgr
      obtain⟨g2,cap2,rfl⟩:=ownsRow_succ hown
      obtain⟨hG11,hS11,hq11,HO11,HF11,HU11,hk11⟩:=Sk.make_app hb10 hG10 hS10 hq10 HOw6 HF10 HU10 hown hgr
      simp only [Act.put,sA,sB,sC]
      refine⟨hS11,?_⟩
      refine tq 19 61 (.pointer (some ⟨g,0,none⟩)) hS11 ?_
      refine tq 20 62 (.pointer (some ⟨g,90,none⟩)) hS11 ?_
      refine Sk.takeStore1 21 92 (.tmp 62) (.tmp 60) g 90 (.slice (some ⟨g2,0,none⟩) (n+1) cap2) kr kr kr kr kr kr kr hG11.row (by rw [Sk.gameC_size];omega) Sk.size_steps rfl ?_
      obtain⟨hG12,hS12,hq12,HO12,HF12,HU12,hk12⟩:=Sk.make_put hgb hG11 hS11 hq11 HO11 HF11 HU11 hk11
      refine⟨hS12,?_⟩
      refine wpAnyH_done kr ?_ _
      obtain⟨W12,hW12⟩:∃W,w11.setCells g 90 [.slice (some ⟨g2,0,none⟩) (n+1) cap2]=W:=⟨_,rfl⟩
      rw [hW12]at hG12 hS12 hq12 HO12 HF12 HU12 hk12⊢
      exact key lb nb g2 cap2 F W12 ⟨hG12,hq12,HO12,HF12,HU12,(Sk.Kg.of_below base hb10).trans hk12,hFl⟩
     ·refine zaf 7 (some 49) 19 (#[.pointer (some ⟨g,0,none⟩)]) (.int .u64 (U (H.key (s.pos n)))) (fun W=>Below W6.heap.size W6 W) kr kr kr kr (zc1 base W6 g s n HAt6 om) (fun w7 hR=> ?_)
      simp only [Act.put,sA,sB,sC]
      have hb7:Below W6.heap.size W6 w7:=(Below.refl _ _).trans (hR.mono (Nat.le_refl _))
      have hG7:=hG.below hR
      have hq7:=hq6.below hR
      have hS7:=hS.below hR
      refine⟨hS7,?_⟩
      refine wpAnyH_all (rs:=[4,11]) kr sp (fun i hi=> ?_)
      rcases(show i=4∨i=11 by simpa using hi)with rfl|rfl
      ·refine zz 4 (some 46) v w7 kr kr kr (Sk.exec_ld (.tmp 45) kr kr (hG7.steps)) ?_
       simp only [Act.put,sA,sB,sC]
       refine⟨hS7,?_⟩
       refine tf 11 (some 53) 46 (#[.int .u64 (U (H.key (s.pos n))),.pointer (some ⟨g,1,none⟩),.pointer (some ⟨qb,0,none⟩)]) (.int .u64 (U (H.changed c q (H.key (s.pos n))))) (fun W=>Below w7.heap.size w7 W) (zbj c q (H.key (s.pos n)) g qb w7 Hc Hqo hG7.seg hq7.seg) (fun w8 hR=> ?_)
       have hb8:Below W6.heap.size W6 w8:=hb7.trans (hR.mono hb7.size)
       have hG8:=hG7.below hR
       have hq8:=hq7.below hR
       have hS8:=hS7.below hR
       refine⟨hS8,?_⟩
       refine takeCallE 15 (some 57) 47 (#[.pointer (some ⟨g,1,none⟩),.pointer (some ⟨qb,0,none⟩)]) (fun x W=>∃lb F,x=Sk.undoV lb∧(∀b,F b→w.heap.size≤b)∧Sk.Foot base F W∧Sk.Undo c q lb F W∧Below w8.heap.size w8 W) kr kr kr kr kr ((zb2 c q base g qb w8 Hc hG8.seg hq8.seg).mono (by rintro e W ⟨lb,F,rfl,h1,h2,h3,h4⟩;exact⟨_,rfl,lb,F,rfl,fun b hb=>Nat.le_trans (Nat.le_trans HB6.size hb8.size) (h1 b hb),h2,h3,h4⟩)) (fun x w9 hR=> ?_)
       obtain⟨lb,F,rfl,hFl,hF9,hU9,hR⟩:=hR
       simp only [Act.put,sA,sB,sC]
       have hb9:Below W6.heap.size W6 w9:=hb8.trans (hR.mono hb8.size)
       have hG9:=hG8.below hR
       have hq9:=hq8.below hR
       have hS9:=hS8.below hR
       refine⟨hS9,?_⟩
       refine te 16 (some 58) (.agg (Sk.stepL (f',t',p',d',c') (H.changed c q (H.key (s.pos n))) lb).toArray) (zo (v0:= .agg (Sk.stepL (f',t',p',d',c') (H.changed c q (H.key (s.pos n))) lb).toArray) kr (fun W=>Sk.exec_build 97 #[(0,.tmp 47),(1,.tmp 53),(2,.tmp 57)] [(0,.agg #[.int .i8 f',.int .i8 t',.int .u8 p',.int .u8 d',.bool c']),(1,.int .u64 (U (H.changed c q (H.key (s.pos n))))),(2,Sk.undoV lb)] _ kr kr (Sk.built_step f' t' p' d' c' _ lb) W) rfl) hS9 ?_
       refine wpAnyH_all (rs:=[17]) kr sp (fun j hj=> ?_)
       obtain rfl:j=17:=by simpa using hj
       clear hj
       refine zz 17 (some 59) (.slice (some ⟨w9.heap.size,0,none⟩) 1 1) (w9.alloc (.cells (Sk.stepL (f',t',p',d',c') (H.changed c q (H.key (s.pos n))) lb).toArray 97)) kr kr kr kr ?_
       simp only [Act.put,sA,sB,sC]
       have hR:Below w9.heap.size w9 (w9.alloc (.cells (Sk.stepL (f',t',p',d',c') (H.changed c q (H.key (s.pos n))) lb).toArray 97)):=bA
       have hl10:=RowAt.new w9 (Sk.stepL (f',t',p',d',c') (H.changed c q (H.key (s.pos n))) lb).toArray 97
       have HF10:=hid (hF9.kg (Sk.Kg.of_below base hR)).1
       have HU10:=hid (hU9.same (hF9.kg (Sk.Kg.of_below base hR)).2)
       obtain⟨w10,hw10⟩:∃W,(w9.alloc (.cells (Sk.stepL (f',t',p',d',c') (H.changed c q (H.key (s.pos n))) lb).toArray 97))=W:=⟨_,rfl⟩
       rw [hw10]at hR hl10 HF10 HU10⊢
       clear hw10
       obtain⟨nb,hnb⟩:∃x,w9.heap.size=x:=⟨_,rfl⟩
       rw [hnb]at hl10⊢
       have hb10:Below W6.heap.size W6 w10:=hb9.trans (hR.mono hb9.size)
       have hG10:=hG9.below hR
       have hq10:=hq9.below hR
       have hS10:=hS9.below hR
       refine⟨hS10,?_⟩
       refine Sk.takeAppend 18 (some 60) (.tmp 46) (.tmp 59) 92 base 97 i0 _ 7 24 kr kr kr kr kr underlying92 hi0 hz0 hz1 hz2 rfl dc v n (Sk.stepsC s n) kr (zq HOw6 hb10) ⟨nb,0,none⟩ 1 1 (Sk.stepL (f',t',p',d',c') (H.changed c q (H.key (s.pos n))) lb) kr rfl (fun j u hu=>by rw [Addr.add_lit,Nat.zero_add];exact(hl10.cell j).trans (by rw [List.getElem?_toArray];exact hu)) (Sk.stepL_one _ _ _) (by unfold maxLen;omega) om (by have:=HB6.size;have:=hb10.size;have:=Hbase.out;omega) ?_
       intro v' w11 hown hgr
       obtain⟨g2,cap2,rfl⟩:=ownsRow_succ hown
       obtain⟨hG11,hS11,hq11,HO11,HF11,HU11,hk11⟩:=Sk.make_app hb10 hG10 hS10 hq10 HOw6 HF10 HU10 hown hgr
       simp only [Act.put,sA,sB,sC]
       refine⟨hS11,?_⟩
       refine tq 19 61 (.pointer (some ⟨g,0,none⟩)) hS11 ?_
       refine tq 20 62 (.pointer (some ⟨g,90,none⟩)) hS11 ?_
       refine Sk.takeStore1 21 92 (.tmp 62) (.tmp 60) g 90 (.slice (some ⟨g2,0,none⟩) (n+1) cap2) kr kr kr kr kr kr kr hG11.row (by rw [Sk.gameC_size];omega) Sk.size_steps rfl ?_
       obtain⟨hG12,hS12,hq12,HO12,HF12,HU12,hk12⟩:=Sk.make_put hgb hG11 hS11 hq11 HO11 HF11 HU11 hk11
       refine⟨hS12,?_⟩
       refine wpAnyH_done kr ?_ _
       obtain⟨W12,hW12⟩:∃W,w11.setCells g 90 [.slice (some ⟨g2,0,none⟩) (n+1) cap2]=W:=⟨_,rfl⟩
       rw [hW12]at hG12 hS12 hq12 HO12 HF12 HU12 hk12⊢
       exact key lb nb g2 cap2 F W12 ⟨hG12,hq12,HO12,HF12,HU12,(Sk.Kg.of_below base hb10).trans hk12,hFl⟩
      ·refine zaf 11 (some 53) 46 (#[.int .u64 (U (H.key (s.pos n))),.pointer (some ⟨g,1,none⟩),.pointer (some ⟨qb,0,none⟩)]) (.int .u64 (U (H.changed c q (H.key (s.pos n))))) (fun W=>Below w7.heap.size w7 W) kr kr kr kr (zbj c q (H.key (s.pos n)) g qb w7 Hc Hqo hG7.seg hq7.seg) (fun w8 hR=> ?_)
       simp only [Act.put,sA,sB,sC]
       have hb8:Below W6.heap.size W6 w8:=hb7.trans (hR.mono hb7.size)
       have hG8:=hG7.below hR
       have hq8:=hq7.below hR
       have hS8:=hS7.below hR
       refine⟨hS8,?_⟩
       refine wpAnyH_all (rs:=[4,15]) kr sp (fun i hi=> ?_)
       rcases(show i=4∨i=15 by simpa using hi)with rfl|rfl
       ·refine zz 4 (some 46) v w8 kr kr kr (Sk.exec_ld (.tmp 45) kr kr (hG8.steps)) ?_
        simp only [Act.put,sA,sB,sC]
        refine⟨hS8,?_⟩
        refine takeCallE 15 (some 57) 47 (#[.pointer (some ⟨g,1,none⟩),.pointer (some ⟨qb,0,none⟩)]) (fun x W=>∃lb F,x=Sk.undoV lb∧(∀b,F b→w.heap.size≤b)∧Sk.Foot base F W∧Sk.Undo c q lb F W∧Below w8.heap.size w8 W) kr kr kr kr kr ((zb2 c q base g qb w8 Hc hG8.seg hq8.seg).mono (by rintro e W ⟨lb,F,rfl,h1,h2,h3,h4⟩;exact⟨_,rfl,lb,F,rfl,fun b hb=>Nat.le_trans (Nat.le_trans HB6.size hb8.size) (h1 b hb),h2,h3,h4⟩)) (fun x w9 hR=> ?_)
        obtain⟨lb,F,rfl,hFl,hF9,hU9,hR⟩:=hR
        simp only [Act.put,sA,sB,sC]
        have hb9:Below W6.heap.size W6 w9:=hb8.trans (hR.mono hb8.size)
        have hG9:=hG8.below hR
        have hq9:=hq8.below hR
        have hS9:=hS8.below hR
        refine⟨hS9,?_⟩
        refine te 16 (some 58) (.agg (Sk.stepL (f',t',p',d',c') (H.changed c q (H.key (s.pos n))) lb).toArray) (zo (v0:= .agg (Sk.stepL (f',t',p',d',c') (H.changed c q (H.key (s.pos n))) lb).toArray) kr (fun W=>Sk.exec_build 97 #[(0,.tmp 47),(1,.tmp 53),(2,.tmp 57)] [(0,.agg #[.int .i8 f',.int .i8 t',.int .u8 p',.int .u8 d',.bool c']),(1,.int .u64 (U (H.changed c q (H.key (s.pos n))))),(2,Sk.undoV lb)] _ kr kr (Sk.built_step f' t' p' d' c' _ lb) W) rfl) hS9 ?_
        refine wpAnyH_all (rs:=[17]) kr sp (fun j hj=> ?_)
        obtain rfl:j=17:=by simpa using hj
        clear hj
        refine zz 17 (some 59) (.slice (some ⟨w9.heap.size,0,none⟩) 1 1) (w9.alloc (.cells (Sk.stepL (f',t',p',d',c') (H.changed c q (H.key (s.pos n))) lb).toArray 97)) kr kr kr kr ?_
        simp only [Act.put,sA,sB,sC]
        have hR:Below w9.heap.size w9 (w9.alloc (.cells (Sk.stepL (f',t',p',d',c') (H.changed c q (H.key (s.pos n))) lb).toArray 97)):=bA
        have hl10:=RowAt.new w9 (Sk.stepL (f',t',p',d',c') (H.changed c q (H.key (s.pos n))) lb).toArray 97
        have HF10:=hid (hF9.kg (Sk.Kg.of_below base hR)).1
        have HU10:=hid (hU9.same (hF9.kg (Sk.Kg.of_below base hR)).2)
        obtain⟨w10,hw10⟩:∃W,(w9.alloc (.cells (Sk.stepL (f',t',p',d',c') (H.changed c q (H.key (s.pos n))) lb).toArray 97))=W:=⟨_,rfl⟩
        rw [hw10]at hR hl10 HF10 HU10⊢
        clear hw10
        obtain⟨nb,hnb⟩:∃x,w9.heap.size=x:=⟨_,rfl⟩
        rw [hnb]at hl10⊢
        have hb10:Below W6.heap.size W6 w10:=hb9.trans (hR.mono hb9.size)
        have hG10:=hG9.below hR
        have hq10:=hq9.below hR
        have hS10:=hS9.below hR
        refine⟨hS10,?_⟩
        refine Sk.takeAppend 18 (some 60) (.tmp 46) (.tmp 59) 92 base 97 i0 _ 7 24 kr kr kr kr kr underlying92 hi0 hz0 hz1 hz2 rfl dc v n (Sk.stepsC s n) kr (zq HOw6 hb10) ⟨nb,0,none⟩ 1 1 (Sk.stepL (f',t',p',d',c') (H.changed c q (H.key (s.pos n))) lb) kr rfl (fun j u hu=>by rw [Addr.add_lit,Nat.zero_add];exact(hl10.cell j).trans (by rw [List.getElem?_toArray];exact hu)) (Sk.stepL_one _ _ _) (by unfold maxLen;omega) om (by have:=HB6.size;have:=hb10.size;have:=Hbase.out;omega) ?_
        intro v' w11 hown hgr
        obtain⟨g2,cap2,rfl⟩:=ownsRow_succ hown
        obtain⟨hG11,hS11,hq11,HO11,HF11,HU11,hk11⟩:=Sk.make_app hb10 hG10 hS10 hq10 HOw6 HF10 HU10 hown hgr
        simp only [Act.put,sA,sB,sC]
        refine⟨hS11,?_⟩
        refine tq 19 61 (.pointer (some ⟨g,0,none⟩)) hS11 ?_
        refine tq 20 62 (.pointer (some ⟨g,90,none⟩)) hS11 ?_
        refine Sk.takeStore1 21 92 (.tmp 62) (.tmp 60) g 90 (.slice (some ⟨g2,0,none⟩) (n+1) cap2) kr kr kr kr kr kr kr hG11.row (by rw [Sk.gameC_size];omega) Sk.size_steps rfl ?_
        obtain⟨hG12,hS12,hq12,HO12,HF12,HU12,hk12⟩:=Sk.make_put hgb hG11 hS11 hq11 HO11 HF11 HU11 hk11
        refine⟨hS12,?_⟩
        refine wpAnyH_done kr ?_ _
        obtain⟨W12,hW12⟩:∃W,w11.setCells g 90 [.slice (some ⟨g2,0,none⟩) (n+1) cap2]=W:=⟨_,rfl⟩
        rw [hW12]at hG12 hS12 hq12 HO12 HF12 HU12 hk12⊢
        exact key lb nb g2 cap2 F W12 ⟨hG12,hq12,HO12,HF12,HU12,(Sk.Kg.of_below base hb10).trans hk12,hFl⟩
       ·refine Sk.wpOp_callE 15 (some 57) 47 (#[.pointer (some ⟨g,1,none⟩),.pointer (some ⟨qb,0,none⟩)]) (fun x W=>∃lb F,x=Sk.undoV lb∧(∀b,F b→w.heap.size≤b)∧Sk.Foot base F W∧Sk.Undo c q lb F W∧Below w8.heap.size w8 W) kr kr kr kr ((zb2 c q base g qb w8 Hc hG8.seg hq8.seg).mono (by rintro e W ⟨lb,F,rfl,h1,h2,h3,h4⟩;exact⟨_,rfl,lb,F,rfl,fun b hb=>Nat.le_trans (Nat.le_trans HB6.size hb8.size) (h1 b hb),h2,h3,h4⟩)) (fun x w9 hR=> ?_)
        obtain⟨lb,F,rfl,hFl,hF9,hU9,hR⟩:=hR
        simp only [Act.put,sA,sB,sC]
        have hb9:Below W6.heap.size W6 w9:=hb8.trans (hR.mono hb8.size)
        have hG9:=hG8.below hR
        have hq9:=hq8.below hR
        have hS9:=hS8.below hR
        refine⟨hS9,?_⟩
        refine te 16 (some 58) (.agg (Sk.stepL (f',t',p',d',c') (H.changed c q (H.key (s.pos n))) lb).toArray) (zo (v0:= .agg (Sk.stepL (f',t',p',d',c') (H.changed c q (H.key (s.pos n))) lb).toArray) kr (fun W=>Sk.exec_build 97 #[(0,.tmp 47),(1,.tmp 53),(2,.tmp 57)] [(0,.agg #[.int .i8 f',.int .i8 t',.int .u8 p',.int .u8 d',.bool c']),(1,.int .u64 (U (H.changed c q (H.key (s.pos n))))),(2,Sk.undoV lb)] _ kr kr (Sk.built_step f' t' p' d' c' _ lb) W) rfl) hS9 ?_
        refine wpAnyH_all (rs:=[4,17]) kr sp (fun i hi=> ?_)
        rcases(show i=4∨i=17 by simpa using hi)with rfl|rfl
        ·refine zz 4 (some 46) v w9 kr kr kr (Sk.exec_ld (.tmp 45) kr kr (hG9.steps)) ?_
         simp only [Act.put,sA,sB,sC]
         refine⟨hS9,?_⟩
         refine wpAnyH_all (rs:=[17]) kr sp (fun j hj=> ?_)
         obtain rfl:j=17:=by simpa using hj
         clear hj
         refine zz 17 (some 59) (.slice (some ⟨w9.heap.size,0,none⟩) 1 1) (w9.alloc (.cells (Sk.stepL (f',t',p',d',c') (H.changed c q (H.key (s.pos n))) lb).toArray 97)) kr kr kr kr ?_
         simp only [Act.put,sA,sB,sC]
         have hR:Below w9.heap.size w9 (w9.alloc (.cells (Sk.stepL (f',t',p',d',c') (H.changed c q (H.key (s.pos n))) lb).toArray 97)):=bA
         have hl10:=RowAt.new w9 (Sk.stepL (f',t',p',d',c') (H.changed c q (H.key (s.pos n))) lb).toArray 97
         have HF10:=hid (hF9.kg (Sk.Kg.of_below base hR)).1
         have HU10:=hid (hU9.same (hF9.kg (Sk.Kg.of_below base hR)).2)
         obtain⟨w10,hw10⟩:∃W,(w9.alloc (.cells (Sk.stepL (f',t',p',d',c') (H.changed c q (H.key (s.pos n))) lb).toArray 97))=W:=⟨_,rfl⟩
         rw [hw10]at hR hl10 HF10 HU10⊢
         clear hw10
         obtain⟨nb,hnb⟩:∃x,w9.heap.size=x:=⟨_,rfl⟩
         rw [hnb]at hl10⊢
         have hb10:Below W6.heap.size W6 w10:=hb9.trans (hR.mono hb9.size)
         have hG10:=hG9.below hR
         have hq10:=hq9.below hR
         have hS10:=hS9.below hR
         refine⟨hS10,?_⟩
         refine Sk.takeAppend 18 (some 60) (.tmp 46) (.tmp 59) 92 base 97 i0 _ 7 24 kr kr kr kr kr underlying92 hi0 hz0 hz1 hz2 rfl dc v n (Sk.stepsC s n) kr (zq HOw6 hb10) ⟨nb,0,none⟩ 1 1 (Sk.stepL (f',t',p',d',c') (H.changed c q (H.key (s.pos n))) lb) kr rfl (fun j u hu=>by rw [Addr.add_lit,Nat.zero_add];exact(hl10.cell j).trans (by rw [List.getElem?_toArray];exact hu)) (Sk.stepL_one _ _ _) (by unfold maxLen;omega) om (by have:=HB6.size;have:=hb10.size;have:=Hbase.out;omega) ?_
         intro v' w11 hown hgr
         obtain⟨g2,cap2,rfl⟩:=ownsRow_succ hown
         obtain⟨hG11,hS11,hq11,HO11,HF11,HU11,hk11⟩:=Sk.make_app hb10 hG10 hS10 hq10 HOw6 HF10 HU10 hown hgr
         simp only [Act.put,sA,sB,sC]
         refine⟨hS11,?_⟩
         refine tq 19 61 (.pointer (some ⟨g,0,none⟩)) hS11 ?_
         refine tq 20 62 (.pointer (some ⟨g,90,none⟩)) hS11 ?_
         refine Sk.takeStore1 21 92 (.tmp 62) (.tmp 60) g 90 (.slice (some ⟨g2,0,none⟩) (n+1) cap2) kr kr kr kr kr kr kr hG11.row (by rw [Sk.gameC_size];omega) Sk.size_steps rfl ?_
         obtain⟨hG12,hS12,hq12,HO12,HF12,HU12,hk12⟩:=Sk.make_put hgb hG11 hS11 hq11 HO11 HF11 HU11 hk11
         refine⟨hS12,?_⟩
         refine wpAnyH_done kr ?_ _
         obtain⟨W12,hW12⟩:∃W,w11.setCells g 90 [.slice (some ⟨g2,0,none⟩) (n+1) cap2]=W:=⟨_,rfl⟩
         rw [hW12]at hG12 hS12 hq12 HO12 HF12 HU12 hk12⊢
         exact key lb nb g2 cap2 F W12 ⟨hG12,hq12,HO12,HF12,HU12,(Sk.Kg.of_below base hb10).trans hk12,hFl⟩
        ·refine zz 17 (some 59) (.slice (some ⟨w9.heap.size,0,none⟩) 1 1) (w9.alloc (.cells (Sk.stepL (f',t',p',d',c') (H.changed c q (H.key (s.pos n))) lb).toArray 97)) kr kr kr kr ?_
         simp only [Act.put,sA,sB,sC]
         have hR:Below w9.heap.size w9 (w9.alloc (.cells (Sk.stepL (f',t',p',d',c') (H.changed c q (H.key (s.pos n))) lb).toArray 97)):=bA
         have hl10:=RowAt.new w9 (Sk.stepL (f',t',p',d',c') (H.changed c q (H.key (s.pos n))) lb).toArray 97
         have HF10:=hid (hF9.kg (Sk.Kg.of_below base hR)).1
         have HU10:=hid (hU9.same (hF9.kg (Sk.Kg.of_below base hR)).2)
         obtain⟨w10,hw10⟩:∃W,(w9.alloc (.cells (Sk.stepL (f',t',p',d',c') (H.changed c q (H.key (s.pos n))) lb).toArray 97))=W:=⟨_,rfl⟩
         rw [hw10]at hR hl10 HF10 HU10⊢
         clear hw10
         obtain⟨nb,hnb⟩:∃x,w9.heap.size=x:=⟨_,rfl⟩
         rw [hnb]at hl10⊢
         have hb10:Below W6.heap.size W6 w10:=hb9.trans (hR.mono hb9.size)
         have hG10:=hG9.below hR
         have hq10:=hq9.below hR
         have hS10:=hS9.below hR
         refine⟨hS10,?_⟩
         refine wpAnyH_all (rs:=[4]) kr sp (fun j hj=> ?_)
         obtain rfl:j=4:=by simpa using hj
         clear hj
         refine zz 4 (some 46) v w10 kr kr kr (Sk.exec_ld (.tmp 45) kr kr (hG10.steps)) ?_
         simp only [Act.put,sA,sB,sC]
         refine⟨hS10,?_⟩
         refine Sk.takeAppend 18 (some 60) (.tmp 46) (.tmp 59) 92 base 97 i0 _ 7 24 kr kr kr kr kr underlying92 hi0 hz0 hz1 hz2 rfl dc v n (Sk.stepsC s n) kr (zq HOw6 hb10) ⟨nb,0,none⟩ 1 1 (Sk.stepL (f',t',p',d',c') (H.changed c q (H.key (s.pos n))) lb) kr rfl (fun j u hu=>by rw [Addr.add_lit,Nat.zero_add];exact(hl10.cell j).trans (by rw [List.getElem?_toArray];exact hu)) (Sk.stepL_one _ _ _) (by unfold maxLen;omega) om (by have:=HB6.size;have:=hb10.size;have:=Hbase.out;omega) ?_
         intro v' w11 hown hgr
         obtain⟨g2,cap2,rfl⟩:=ownsRow_succ hown
         obtain⟨hG11,hS11,hq11,HO11,HF11,HU11,hk11⟩:=Sk.make_app hb10 hG10 hS10 hq10 HOw6 HF10 HU10 hown hgr
         simp only [Act.put,sA,sB,sC]
         refine⟨hS11,?_⟩
         refine tq 19 61 (.pointer (some ⟨g,0,none⟩)) hS11 ?_
         refine tq 20 62 (.pointer (some ⟨g,90,none⟩)) hS11 ?_
         refine Sk.takeStore1 21 92 (.tmp 62) (.tmp 60) g 90 (.slice (some ⟨g2,0,none⟩) (n+1) cap2) kr kr kr kr kr kr kr hG11.row (by rw [Sk.gameC_size];omega) Sk.size_steps rfl ?_
         obtain⟨hG12,hS12,hq12,HO12,HF12,HU12,hk12⟩:=Sk.make_put hgb hG11 hS11 hq11 HO11 HF11 HU11 hk11
         refine⟨hS12,?_⟩
         refine wpAnyH_done kr ?_ _
         obtain⟨W12,hW12⟩:∃W,w11.setCells g 90 [.slice (some ⟨g2,0,none⟩) (n+1) cap2]=W:=⟨_,rfl⟩
         rw [hW12]at hG12 hS12 hq12 HO12 HF12 HU12 hk12⊢
         exact key lb nb g2 cap2 F W12 ⟨hG12,hq12,HO12,HF12,HU12,(Sk.Kg.of_below base hb10).trans hk12,hFl⟩
    case rest2=>
     rintro lb nb g2 cap2 F W12 ⟨hG12,hq12,HO12,HF12,HU12,hk12,hFl⟩
     have HFl:=hid hFl
     clear hFl
     go_wp2_with (first
      |((with_reducible refine ze rfl _ rfl ?_);refine⟨qb,q,rfl,hq12,?_⟩)
      |((with_reducible refine Sk.wpl_store_seg rfl 31 _ _ rfl ?_);refine⟨g,1,94,_,posC q,rfl,rfl,hG12.heap,(by rw [zC,Sk.gameC_size];omega),zr q,zaG q,?_⟩;intro W13 hP13 hr13))
     go_ret
     exact HE _ _ (by rw [if_neg sp,if_pos sp];exact⟨rfl,lb,F,HFl,Sk.make_end Hat Hcc Hky HNx Hqo (Sk.Kg.of_below base HB6) hG12 HO12 HF12 HU12 hk12 hP13 hr13⟩)
theorem zca(base:Nat)(w:World)(g:Nat)(s:Sk.St)(n:Nat)(m:Mv)(h:Sk.At base w g s n)(hN:n≤1000)(hT:Tb w)(hbase:base≤w.heap.size):Calls prog 15 #[.pointer (some ⟨g,0,none⟩),.agg (M.cell m).toArray] w (Sk.MakeEnd base g s n m w):=
 (gmake2_any base w g s n m h hN hT hbase).mono fun _ _ h=>h.old
end Go.Proofs.YtbakeajgolhkgaaGreatDoor
