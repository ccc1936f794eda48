import Derived.DeepKeys
import Derived.Test.YtbakeajgolhkgaaGreatDoorYaz
import Derived.Test.YtbakeajgolhkgaaGreatDoorYbb
import Derived.Test.YtbakeajgolhkgaaGreatDoorYar
set_option maxRecDepth 100000
set_option maxHeartbeats 8000000
open Go.Lib (hid)
namespace Go.Proofs.YtbakeajgolhkgaaGreatDoor
open Go.Proofs.Tryz
section
open Go.RowKit Go.Sort
section
variable {c:Nat→Int} {F G:Nat} {p d:Int} {ca:Bool} {t:Int} (h:A.Fine c F G p d ca t) {b:Nat} {w0 w:World}
include h
theorem zi7(hM:A.MvAt w b (A.step c ((F:Int),(G:Int),p,d,ca) t 3) c ((F:Int),(G:Int),p,d,ca) t)(hC:A.Ctx w0 w b):
  cR 55 #[.pointer (some ⟨b,0,none⟩)] w (.tuple #[]) fun w'=>A.Step b (A.step c ((F:Int),(G:Int),p,d,ca) t 4) c ((F:Int),(G:Int),p,d,ca) t w w':=
 zdU _ c F G p d ca t b w0 w hM hC h.F64 (zw h.ok) (h.step_ok 3 dc).1 (by have:=(h.step_ok 3 dc).2 dc;have h7:=h.c78;rw [←this]at h7;exact h7)
end
theorem ze4(c:Nat→Int)(f g p d:Int)(ca:Bool)(w:World)(hc:PosOk c)(hT:Tb w):
  cB 100 #[.agg (posC c),.agg #[.int .i8 f,.int .i8 g,.int .u8 p,.int .u8 d,.bool ca]] w (.bool (decide (0≤Z.taken c (f,g,p,d,ca)))):=by
 have hp:=PosAt.new w c
 have hb0:Below w.heap.size w (w.alloc (.cells (posC c) 31)):=bA
 obtain⟨W0,hW0⟩:∃W0,w.alloc (.cells (posC c) 31)=W0:=⟨_,rfl⟩
 have hs1:W0.heap.size=w.heap.size+1:=by rw [←hW0];simp
 rw [hW0]at hp hb0
 have hm:=RowAt.new W0 #[.int .i8 f,.int .i8 g,.int .u8 p,.int .u8 d,.bool ca] 47
 replace hp:=hp.alloc (.cells #[.int .i8 f,.int .i8 g,.int .u8 p,.int .u8 d,.bool ca] 47)
 replace hb0:=hb0.alloc om (.cells #[.int .i8 f,.int .i8 g,.int .u8 p,.int .u8 d,.bool ca] 47)
 obtain⟨W,hW⟩:∃W,W0.alloc (.cells #[.int .i8 f,.int .i8 g,.int .u8 p,.int .u8 d,.bool ca] 47)=W:=⟨_,rfl⟩
 rw [hW]at hp hm hb0
 rw [hs1]at hm
 have HP:=hid (And.intro hp (And.intro hm hb0))
 have HK:Hid (∀w',Below w.heap.size w w'→cB 51 #[.agg (posC c),.agg #[.int .i8 f,.int .i8 g,.int .u8 p,.int .u8 d,.bool ca]] w' (.int .i64 (Z.taken c (f,g,p,d,ca)))):=hid (fun w' hb=>zcy c f g p d ca w' hc (zi hT hb))
 clear hp hm hb0 hc hT
 go_enter func100,ntmps100
 go_wp2_with (first
  |((with_reducible refine ze rfl _ rfl ?_);refine⟨_,_,rfl,HP.1,?_⟩)
  |((with_reducible refine zj rfl 47 _ rfl underlying47 rfl ?_);refine⟨w.heap.size+1,47,_,rfl,HP.2.1,size_Mv,?_⟩)
  |(go_at_call 51;refine(HK _ HP.2.2).mono ?_;rintro e w1 ⟨rfl,hb1⟩))
 go_ret
 exact⟨rfl,za HP.2.2 hb1⟩
namespace Z
end Z
def M.stands(c:Nat→Int)(s:Nat)(k:Int):Bool:=c (1+s)==P.make (c 78) k
theorem zaL(c:Nat→Int)(s:Nat)(k:Int)(w:World)(hs:s<64)(h0:0≤c 78)(h1:c 78≤255)(h2:0≤k)(h3:k≤255):
  cB 356 #[.agg (posC c),.int .i8 (s:Int),.int .u8 k] w (.bool (M.stands c s k)):=by
 have hb:=zbM c s hs
 go_enter func356,ntmps356
 go_wp2
 go_outline
 go_quiet ((first|(go_at_call 126;exact zJ (zc5 _ _ _ om om om om))))
 go_wp2
 go_ret
 exact⟨rfl,below_drewN bA _⟩
end
section
open Go.RowKit
def gF(P:Program)(g:TypeId→Option (List (Option IntKind))):List Field→Nat→Option (List (Option IntKind))
 |[],_=>some []
 |f::fs,off=>if f.offset=off∧(f.name != "_")=true then(g f.type).bind fun l=>if P.cellsOf f.type=l.length then(gF P g fs (off+l.length)).map (l++ ·)else none else none
def flatG(P:Program):Nat→TypeId→Option (List (Option IntKind))
 |0,_=>none
 |n+1,t=>
  match P.underlying t with
  |some .bool=>some [none]
  |some (.int k)=>some [some k]
  |some (.struct fs)=>(gF P (flatG P n) fs.toList 0).bind fun ks=>if P.cellsOf t=ks.length then some ks else none
  |some (.array m e)=>(flatG P n e).bind fun l=>if P.cellsOf e=l.length∧P.cellsOf t=m*l.length then some (List.replicate m l).flatten else none
  |_=>none
def litOf:Value→Lit
 | .int k n=> .int k n
 | .bool b=> .bool b
 |_=> .bool false
theorem zbV{ks ls:List (Option IntKind)}{cs:List Value}(h:FlatIs (ks++ls) cs):FlatIs ks (cs.take ks.length)∧FlatIs ls (cs.drop ks.length):=by
 have hl:cs.length=ks.length+ls.length:=by rw [h.1,List.length_append]
 refine⟨⟨by rw [List.length_take];omega,fun i k hi=> ?_⟩,⟨by rw [List.length_drop];omega,fun i k hi=> ?_⟩⟩
 ·have hlt:=(List.getElem?_eq_some_iff.1 hi).1
  obtain⟨u,hu,hc⟩:=h.2 i k (by rw [List.getElem?_append_left hlt];exact hi)
  exact⟨u,by rw [List.getElem?_take_of_lt hlt];exact hu,hc⟩
 ·obtain⟨u,hu,hc⟩:=h.2 (ks.length+i) k (by rw [List.getElem?_append_right om,Nat.add_sub_cancel_left];exact hi)
  exact⟨u,by rw [List.getElem?_drop];exact hu,hc⟩
theorem zeP{P:Program}{g:TypeId→Option (List (Option IntKind))}:∀(fs:List Field) (off:Nat) (ks:List (Option IntKind)),gF P g fs off=some ks→fs.all (·.name != "_")=true
 |[],_,_,_=>rfl
 |f::fs,off,ks,h=>by
  unfold gF at h
  split at h
  ·rename_i hf
   rw [Option.bind_eq_some_iff]at h
   obtain⟨l,_,h⟩:=h
   split at h
   ·rw [Option.map_eq_some_iff]at h
    obtain⟨ks',h',_⟩:=h
    rw [List.all_cons,hf.2,zeP fs _ _ h'];rfl
   ·cases h
  ·cases h
theorem zid{P:Program}{g:TypeId→Option (List (Option IntKind))}{keys:TypeId→List Value→Option (List Lit)}(hg:∀t ks ds,g t=some ks→FlatIs ks ds→keys t ds=some (ds.map litOf))(cs:List Value):
  ∀(fs:List Field) (off:Nat) (ks:List (Option IntKind)),gF P g fs off=some ks→FlatIs ks (cs.drop off)→
   ∃ls,(fs.mapM fun f=>keys f.type ((cs.drop f.offset).take (P.cellsOf f.type)))=some ls∧ls.flatten=(cs.drop off).map litOf
 |[],off,ks,h,hF=>by
  simp only [gF,Option.some.injEq]at h
  subst h
  have:cs.drop off=[]:=List.eq_nil_of_length_eq_zero (by simpa using hF.1)
  exact⟨[],rfl,by rw [this];rfl⟩
 |f::fs,off,ks,h,hF=>by
  unfold gF at h
  split at h
  ·rename_i hf
   rw [Option.bind_eq_some_iff]at h
   obtain⟨l,hl,h⟩:=h
   split at h
   ·rename_i hc
    rw [Option.map_eq_some_iff]at h
    obtain⟨ks',h',rfl⟩:=h
    obtain⟨h1,h2⟩:=zbV hF
    rw [List.drop_drop]at h2
    obtain⟨ls,e1,e2⟩:=zid hg cs fs (off+l.length) ks' h' h2
    refine⟨((cs.drop off).take l.length).map litOf::ls,?_,?_⟩
    ·rw [List.mapM_cons,hf.1,hc,hg _ _ _ hl h1,e1];rfl
    ·rw [List.flatten_cons,e2,←List.drop_drop,←List.map_append,List.take_append_drop]
   ·cases h
  ·cases h
theorem zh8{keys:List Value→Option (List Lit)}(l:List (Option IntKind))(hg:∀ds,FlatIs l ds→keys ds=some (ds.map litOf))(cs:List Value):
  ∀(m off:Nat),FlatIs (List.replicate m l).flatten (cs.drop (off*l.length))→
   ∃ls,((List.range' off m).mapM fun i=>keys ((cs.drop (i*l.length)).take l.length))=some ls∧ls.flatten=(cs.drop (off*l.length)).map litOf
 |0,off,hF=>by
  have:cs.drop (off*l.length)=[]:=List.eq_nil_of_length_eq_zero (by simpa using hF.1)
  exact⟨[],rfl,by rw [this];rfl⟩
 |m+1,off,hF=>by
  rw [List.replicate_succ,List.flatten_cons]at hF
  obtain⟨h1,h2⟩:=zbV hF
  rw [List.drop_drop,←Nat.succ_mul]at h2
  obtain⟨ls,e1,e2⟩:=zh8 l hg cs m (off+1) h2
  refine⟨((cs.drop (off*l.length)).take l.length).map litOf::ls,?_,?_⟩
  ·rw [List.range'_succ,List.mapM_cons,hg _ h1,e1];rfl
  ·rw [List.flatten_cons,e2,Nat.succ_mul,←List.drop_drop,←List.map_append,List.take_append_drop]
theorem zbB{P:Program}:∀(n:Nat) (t:TypeId) (ks:List (Option IntKind)) (cs:List Value),flatG P n t=some ks→FlatIs ks cs→P.keyLits n t cs=some (cs.map litOf)
 |0,_,_,_,h,_=>by cases h
 |n+1,t,ks,cs,h,hF=>by
  unfold flatG at h
  unfold Program.keyLits
  cases hu:P.underlying t with
  |none=>simp [hu]at h
  |some d=>
   simp only [hu]at h
   cases d
   case bool=>
    simp only [Option.some.injEq]at h
    subst h
    match cs,hF with
    |[u],hF=>
     obtain⟨v,hv,b,rfl⟩:=hF.2 0 none rfl
     obtain rfl:u= .bool b:=by simpa using hv
     simp [litOf]
    |[],hF=>have:=hF.1;simp at this
    |_::_::_,hF=>have:=hF.1;simp at this
   case int k=>
    simp only [Option.some.injEq]at h
    subst h
    match cs,hF with
    |[u],hF=>
     obtain⟨v,hv,m,rfl,hw⟩:=hF.2 0 (some k) rfl
     obtain rfl:u= .int k m:=by simpa using hv
     simp [litOf,hw]
    |[],hF=>have:=hF.1;simp at this
    |_::_::_,hF=>have:=hF.1;simp at this
   case struct fs=>
    simp only at h
    rw [Option.bind_eq_some_iff]at h
    obtain⟨ks',h',h⟩:=h
    split at h
    ·rename_i hc
     obtain rfl:=Option.some.inj h
     obtain⟨ls,e1,e2⟩:=zid (fun t ks ds=>zbB n t ks ds) cs fs.toList 0 ks' h' (by rw [List.drop_zero];exact hF)
     have hn:=zeP _ _ _ h'
     rw [List.drop_zero]at e2
     have hn2:fs.all (·.name != "_")=true:=by rw [←Array.all_toList];exact hn
     simp only
     rw [if_pos ⟨by rw [hF.1,hc],hn2⟩,e1]
     simp [e2]
    ·cases h
   case array m e=>
    simp only at h
    rw [Option.bind_eq_some_iff]at h
    obtain⟨l,hl,h⟩:=h
    split at h
    ·rename_i hc
     obtain rfl:=Option.some.inj h
     obtain⟨ls,e1,e2⟩:=zh8 l (fun ds hd=>zbB n e l ds hl hd) cs m 0 (by rw [Nat.zero_mul,List.drop_zero];exact hF)
     rw [Nat.zero_mul,List.drop_zero]at e2
     simp only
     rw [if_pos (by rw [hF.1,hc.2];simp),hc.1,List.range_eq_range',e1]
     simp [e2]
    ·cases h
   all_goals(simp at h)
def samePos(c c':Nat→Int):Bool:=(List.range 88).all fun i=>c i==c' i
theorem zcb(c c':Nat→Int):samePos c c'=true↔∀i,i<88→c i=c' i:=by
 unfold samePos
 rw [List.all_eq_true]
 exact⟨fun h i hi=>by simpa using h i (by simpa using hi),fun h i hi=>by simpa using h i (by simpa using hi)⟩
theorem posFlatG:flatG prog 6 31=some posK:=of_decide_eq_true kr
theorem posFlatIs(c:Nat→Int)(hc:PosOk c):FlatIs posK (posL c):=by
 refine⟨by rw [zcI];simp [posL],fun i k hi=> ?_⟩
 have hlt:=(List.getElem?_eq_some_iff.1 hi).1
 rw [zcI]at hlt
 have:k=some (pk i):=by simp [posK,hlt]at hi;exact hi.symm
 subst this
 exact⟨_,by simp [posL,hlt],_,rfl,hc i hlt⟩
theorem zhv(c c':Nat→Int):(posL c).map litOf=(posL c').map litOf↔∀i,i<88→c i=c' i:=by
 unfold posL
 constructor
 ·intro h i hi
  have:=congrArg (·[i]?) h
  simp [hi,litOf]at this
  exact this
 ·intro h
  rw [List.map_map,List.map_map]
  apply List.map_congr_left
  intro i hi
  simp [litOf,h i (by simpa using hi)]
theorem posKeyType:prog.keyTypeAt 5 31=true:=of_decide_eq_true kr
theorem posFormed(c:Nat→Int):(Value.agg (posC c)).formed prog 31=true:=by kernel_rfl
theorem zbl(c c':Nat→Int)(w:World)(hc:PosOk c)(hc':PosOk c'):(Op.equal 31 (.agg (posC c)) (.agg (posC c'))).run prog w= .ok (samePos c c') w:=by
 obtain⟨r,hr,hiff⟩:=run_equalIn_deep 9995 5 31 posKeyType w 6 6 (.agg (posC c)) (.agg (posC c')) _ _ (posFormed c) (posFormed c')
  (by show prog.keyLits 6 31 (posC c).toList=_;unfold posC;exact zbB 6 _ _ _ posFlatG (posFlatIs c hc)) (by show prog.keyLits 6 31 (posC c').toList=_;unfold posC;exact zbB 6 _ _ _ posFlatG (posFlatIs c' hc'))
 have e:r=samePos c c':=by
  rw [Bool.eq_iff_iff,hiff,zhv,zcb]
 rw [←e]
 exact hr
theorem posGuard:prog.eqGuardType prog.depth 31=false:=by kernel_rfl
theorem zdK(ev:Operand→Value)(o:Oper)(x y:Operand)(t:TypeId)(c c':Nat→Int)(w:World)(hc:PosOk c)(hc':PosOk c')(ho:o.op= .binOp .eql 31 x y t)
  (hx:ev x= .agg (posC c)) (hy:ev y= .agg (posC c')):(execOp ev o).run prog w= .ok (.value (.bool (samePos c c'))) w:=by
 have h:=zbl c c' w hc hc'
 have hg:=posGuard
 unfold execOp
 simp only [ho,hx,hy]
 simp [eqGuard,binOp,h,hg,go_sem]
theorem zaT(ev:Operand→Value)(o:Oper)(x y:Operand)(t:TypeId)(c c':Nat→Int)(w:World)(hc:PosOk c)(hc':PosOk c')(ho:o.op= .binOp .neq 31 x y t)
  (hx:ev x= .agg (posC c)) (hy:ev y= .agg (posC c')):(execOp ev o).run prog w= .ok (.value (.bool (!samePos c c'))) w:=by
 have h:=zbl c c' w hc hc'
 have hg:=posGuard
 unfold execOp
 simp only [ho,hx,hy]
 simp [eqGuard,binOp,h,hg,go_sem]
theorem zah(c:Nat→Int):samePos c c=true:=(zcb c c).2 (fun _ _=>rfl)
section
variable {ops:Array Oper} {rest:List Oper} {o:Oper} {a:Act} {w:World} {Q:Exit→Act→World→Prop}
end
end
end Go.Proofs.YtbakeajgolhkgaaGreatDoor
