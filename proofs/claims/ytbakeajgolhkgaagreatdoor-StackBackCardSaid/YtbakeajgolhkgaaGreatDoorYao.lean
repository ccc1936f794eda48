import Derived.Test.YtbakeajgolhkgaaGreatDoorYan
import Derived.Test.YtbakeajgolhkgaaGreatDoorYam
import Derived.Test.YtbakeajgolhkgaaGreatDoorYag
import Derived.Test.YtbakeajgolhkgaaGreatDoorZl
set_option maxRecDepth 100000
set_option maxHeartbeats 8000000
open Go.Lib (hid)
namespace Go.Proofs.YtbakeajgolhkgaaGreatDoor
open Go.Proofs.Tryz
section
open Go.RowKit Go.Sort
structure PosIn (w:World) (g:Nat) (T:TypeId) (c:Nat→Int):Prop where
 heap:w.heap[g]? =some (.cells (posC c) T (0,0))
section
variable {w w' w0:World} {g b B:Nat} {T:TypeId} {c:Nat→Int}
theorem PosIn.lt(h:PosIn w g T c):g<w.heap.size:=(Array.getElem?_eq_some_iff.1 h.heap).1
theorem PosIn.row(h:PosIn w g T c):RowAt w g T (posC c):=⟨h.heap⟩
theorem PosIn.cell(h:PosIn w g T c)(i:Nat)(hi:i<88)(k:IntKind)(hk:pk i=k):w.cell? ⟨g,i,none⟩=some (.int k (c i)):=by
 subst hk
 simp only [World.cell?,h.heap];exact zE c i hi
theorem PosIn.bd(h:PosIn w g T c)(s:Nat)(hs:s<64):w.cell? ⟨g,1+s,none⟩=some (.int .u8 (c (1+s))):=h.cell _ om _ (zk hs)
theorem PosIn.frozen(h:PosIn w g T c)(i:Nat):w.frozen? ⟨g,i,none⟩=false:=by simp [World.frozen?,h.heap]
theorem PosIn.below(h:PosIn w g T c)(hb:Below w.heap.size w w'):PosIn w' g T c:=⟨(hb.block g h.lt).trans h.heap⟩
theorem PosIn.belowB(h:PosIn w g T c)(hb:Below B w w')(hg:g<B):PosIn w' g T c:=⟨(hb.block g hg).trans h.heap⟩
theorem PosIn.alloc(h:PosIn w g T c)(o:Obj):PosIn (w.alloc o) g T c:=⟨(Below.heap_alloc _ _ _ h.lt).trans h.heap⟩
theorem PosIn.new(w:World)(T:TypeId)(c:Nat→Int):PosIn (w.alloc (.cells (posC c) T)) w.heap.size T c:=⟨heap_alloc_new _ _⟩
theorem PosAt.in'(h:PosAt w g c):PosIn w g 31 c:=⟨h.heap⟩
theorem PosAt.cellK(h:PosAt w g c)(i:Nat)(hi:i<88)(k:IntKind)(hk:pk i=k):w.cell? ⟨g,i,none⟩=some (.int k (c i)):=h.in'.cell i hi k hk
end
theorem zbX{P:Program}{ops:Array Oper}{rest:List Oper}{o:Oper}{a:Act}{w:World}{Q:Exit→Act→World→Prop}(hw:Region.wanted o (yielded ops a.tmps)=true)(ty:TypeId)(x:Operand)(ho:o.op= .load ty x){d:TypeDesc}(hu:P.underlying ty=some d)(hd:d.isRow=true)
  (h:∃(b off:Nat) (cs:List Value),a.eval x= .pointer (some ⟨b,off,none⟩)∧w.rangeAt b off cs∧(P.info? ty).map (·.size)=some cs.length∧wpList P ops Q rest (a.put o.dst (.agg cs.toArray)) w):wpList P ops Q (o::rest) a w:=by
 obtain⟨b,off,cs,hx,hp,hi,h⟩:=h
 refine wpList_step fun K hK=> ?_
 rw [if_pos hw]
 exact wp_load_mid ty x ho b off hx cs d hp hu hd hi (hK _ _ h)
theorem zaM{K:Act→Prop}{a:Act}{o:Oper}{w:World}(x:Operand)(ho:o.op= .load 31 x)
  (h:∃(g:Nat) (T:TypeId) (c:Nat→Int),a.eval x= .pointer (some ⟨g,0,none⟩)∧PosIn w g T c∧K (a.put o.dst (.agg (posC c)))):o.quiet prog a (fun w'=>∃p:Regrown,w'=grow (redrawn w p.d) p.os) K:=by
 obtain⟨g,T,c,hx,hp,hk⟩:=h
 exact zu x ho c ⟨g,_,_,hx,fun w' ⟨p,e⟩=>by rw [e,zG _ _ _ _ hp.lt];exact hp.heap⟩ hk
def T.MovAt(w:World)(b off:Nat)(x:Nat×Nat):Prop:=w.rangeAt b off [.int .i8 (x.1:Int),.int .i8 (x.2:Int),.int .u8 0,.int .u8 0,.bool true]
theorem T.cells_at(l:List (Nat×Nat))(i:Nat)(x:Nat×Nat)(h:l[i]? =some x)(j:Nat)(v:Value)(hv:(movL x)[j]? =some v):(cells l)[i*5+j]? =some v:=by
 induction l generalizing i with
 |nil=>cases h
 |cons a l ih=>
  unfold cells
  rw [List.flatMap_cons]
  cases i with
  |zero=>
   simp at h
   subst h
   have:j<(movL a).length:=(List.getElem?_eq_some_iff.1 hv).1
   rw [List.getElem?_append_left om,Nat.zero_mul,Nat.zero_add,hv]
  |succ i=>
   rw [List.getElem?_append_right (by simp [movL];omega),show(i+1)*5+j-(movL a).length=i*5+j by simp [movL];omega]
   exact ih i (by simpa using h)
theorem T.MovAt.below{w w':World}{b off:Nat}{x:Nat×Nat}(h:MovAt w b off x)(hb:Below w.heap.size w w'):MovAt w' b off x:=fun j v hv=>by
 have:=h j v hv
 exact(hb.cell (p:=⟨b,off+j,none⟩) (World.block_lt_of_cell? w _ this)).trans this
theorem T.MovAt.five{w:World}{b off:Nat}{x:Nat×Nat}(h:MovAt w b off x):w.cell? ⟨b,off,none⟩=some (.int .i8 (x.1:Int))∧w.cell? ⟨b,off+1,none⟩=some (.int .i8 (x.2:Int))∧w.cell? ⟨b,off+2,none⟩=some (.int .u8 0)∧w.cell? ⟨b,off+3,none⟩=some (.int .u8 0)∧w.cell? ⟨b,off+4,none⟩=some (.bool true):=
 ⟨h 0 _ rfl,h 1 _ rfl,h 2 _ rfl,h 3 _ rfl,h 4 _ rfl⟩
namespace T
end T
end
section
open Go.RowKit Go.Sort
attribute [local go_sem] Oper.semAt_some
section
variable {P:Program} {ops:Array Oper} {Q:Exit→Act→World→Prop} {md:Region.Mode} {S:World→Prop} {fuel:Nat} {listed:Array Bool} {a:Act} {w:World}
theorem takeCallE(i:Nat)(d:Option Tmp)(f:FuncId)(args:Array Value)(R:Value→World→Prop)(ho:Nat.blt i ops.size=true)(hr:Region.ready md ops listed=[i])(hw:Region.wanted (ops.getD i default) (yielded ops a.tmps)=true)
  (hd:(ops.getD i default).dst=d) (he:(execOp a.eval (ops.getD i default)).run P w= .ok (.enter f args) w)
  (hc:Calls P f args w fun e w'=>∃v,e= .returned v∧R v w') (h:∀v w',R v w'→S w'∧wpAnyH P md ops Q S fuel (listed.setIfInBounds i true) (a.put d v) w'):wpAnyH P md ops Q S (fuel+1) listed a w:=by
 refine takeOne i ho hr hw ?_
 unfold Oper.wp
 rw [he]
 show Calls P f args w _
 refine hc.mono ?_
 rintro e w' ⟨v,rfl,hR⟩
 rw [hd]
 exact h v w' hR
end
theorem A.owns_ne{w:World}{base:Nat}{e:TypeId}{s:Nat}{v:Value}{n:Nat}{xs:List Value}{b:Nat}(h:w.ownsRow base e s v n xs)(hb:b<base):v.ownBlock≠some b:=by
 rcases h.2 with⟨e,_⟩|⟨g,cap,cur,e,hg,_⟩
 ·rw [e];exact fun h=>by cases h
 ·rw [e];exact fun h=>by cases h;exact absurd hg (Nat.not_le.2 hb)
theorem A.wipe_snoc(l:List Nat)(q:Nat→Int)(a:Nat):A.wipe q (l++[a])=upd (A.wipe q l) (1+a) 0:=by
 induction l generalizing q with
 |nil=>rfl
 |cons s l ih=>exact ih _
theorem zg4(q c:Nat→Int)(f:Int)(G:Nat)(p d:Int)(ca:Bool)(t:Int)(b:Nat)(w0 w:World)(hM:A.MvAt w b q c (f,(G:Int),p,d,ca) t)(hC:A.Ctx w0 w b)(hG:G<64)(hq:BdOk q):
  cR 54 #[.pointer (some ⟨b,0,none⟩)] w (.tuple #[]) fun w'=>A.Step b (A.blow q (f,(G:Int),p,d,ca) t) c (f,(G:Int),p,d,ca) t w w':=by
 have h0:w.cell? ⟨b,0,none⟩=some (.int .u8 (q 0)):=hM.atq 0 dc .u8 rfl
 have h181:=hM.att
 cases d1:(q 0 !=3)
 ·cases d2:decide (t<0)
  ·have E:=hid (show A.blow q (f,(G:Int),p,d,ca) t=A.wipe q (B.list (A.blown q (G:Int))) by
    unfold A.blow
    rw [if_neg (fun h=>h.elim (fun h=>h (by simpa using d1)) (fun h=>of_decide_eq_false d2 h))])
   have HBn:Hid (∀W,cB 130 #[.agg (posC q),.int .i64 (G:Int)] W (.int .u64 (U (A.blown q (G:Int))))):=hid (fun W=>by
    have:=zfC q (G:Int) W hq
    unfold A.blownV at this
    rwa [if_pos om]at this)
   have hp31:=underlying31
   have hw64:IntKind.i64.wrap (G:Int)=(G:Int):=by rw [IntKind.wrap_i64];omega
   have hlt0:=hM.lt
   go_enter func54,ntmps54
   go_wp2_with fail
   refine wp_region_held (S:=fun w'=>A.MvAt w' b q c (f,(G:Int),p,d,ca) t∧w.grownBy w' (some b)) kr ?_
   have hSd:A.MvAt w.drew b q c (f,(G:Int),p,d,ca) t∧w.grownBy w.drew (some b):=⟨⟨⟨hM.row.heap⟩⟩,⟨rfl,rfl,rfl,Nat.le_refl _,fun _ _ _=>rfl⟩⟩
   have hTd:Tb w.drew:=zi hC.tb' (M.below_drew (Below.refl _ _) 1)
   clear hM h0 h181 hlt0
   refine tq 0 17 (.pointer (some ⟨b,0,none⟩)) hSd ?_
   refine tq 1 18 (.pointer (some ⟨b,0,none⟩)) hSd ?_
   refine tq 2 19 (.pointer (some ⟨b,0,none⟩)) hSd ?_
   refine te 3 (some 20) (.agg (posC q)) (yieldsIf_load_mid kr 31 (.tmp 19) kr b 0 kr (posL q) _ (fun _ h=>h.1.rq) hp31 rfl (A.posL_info q)) hSd ?_
   refine tq 4 21 (.pointer (some ⟨b,0,none⟩)) hSd ?_
   refine tq 5 22 (.pointer (some ⟨b,0,none⟩)) hSd ?_
   refine tq 6 23 (.pointer (some ⟨b,176,none⟩)) hSd ?_
   refine tq 7 24 (.pointer (some ⟨b,177,none⟩)) hSd ?_
   refine te 8 (some 25) (.int .i8 (G:Int)) (zt kr 26 (.tmp 24) kr ⟨b,177,none⟩ kr (fun w9=>zK _ _ w9) (fun w9 h9=>h9.1.atm 1 _ rfl)) hSd ?_
   refine te 9 (some 26) (.int .i64 (G:Int)) (zo (v0:= .int .i64 (IntKind.i64.wrap (G:Int))) kr (fun _=>by kernel_rfl) (by rw [hw64])) hSd ?_
   refine tq 13 30 (.int .i64 0) hSd ?_
   refine tf 10 (some 27) 130 (#[.agg (posC q),.int .i64 (G:Int)]) (.int .u64 (U (A.blown q (G:Int)))) (fun w9=>Below w.drew.heap.size w.drew w9) (HBn _) (fun u1 hRu1=> ?_)
   have hS1:A.MvAt u1 b q c (f,(G:Int),p,d,ca) t∧w.grownBy u1 (some b):=⟨hSd.1.below hRu1,A.below_step hSd.2 hRu1⟩
   have hT1:=zi hTd hRu1
   clear hSd hRu1 hTd
   refine⟨hS1,?_⟩
   refine takeCallE 11 (some 28) 129 (#[.int .u64 (U (A.blown q (G:Int)))]) (fun v w9=>w9.ownsRow u1.heap.size 3 1 v (B.list (A.blown q (G:Int))).length (B.ints (B.list (A.blown q (G:Int))))∧Below u1.heap.size u1 w9) kr kr kr kr kr (zbF _ _ hT1) (fun v w2 hR2=> ?_)
   simp only [Act.put,sA,sB,sC]
   have hS2:A.MvAt w2 b q c (f,(G:Int),p,d,ca) t∧w.grownBy w2 (some b):=⟨hS1.1.below hR2.2,A.below_step hS1.2 hR2.2⟩
   refine⟨hS2,?_⟩
   have hbu:=hS1.1.lt
   obtain⟨hown,hb2⟩:=hR2
   obtain⟨LA,hLA⟩:∃LA,B.list (A.blown q (G:Int))=LA:=⟨_,rfl⟩
   have hLm:=zb6 (A.blown q (G:Int))
   have hL64:=B.list_len (A.blown q (G:Int))
   rw [hLA]at hown hLm hL64 E
   obtain⟨ao,cap,rfl,hcap,hcm,hao⟩:=zD hown
   clear hao hT1 hb2 hS1
   refine te 12 (some 29) (.int .i64 (LA.length:Int)) (zo (v0:= .int .i64 (LA.length:Int)) kr (fun w9=>by kernel_rfl) rfl) hS2 ?_
   refine wpAnyH_done kr ?_ _
   have HM2:=hid hS2.1
   have HG2:=hid hS2.2
   have HO:=hid hown
   have HL:=hid hLm
   have HU:=hid hbu
   clear hS2 hown hLm hbu
   go_wp2_with fail
   go_loopw [30] (fun vi wr=>∃k:Nat,k≤LA.length∧vi= .int .i64 (k:Int)∧A.MvAt wr b (A.wipe q (LA.take k)) c (f,(G:Int),p,d,ca) t∧w.grownBy wr (some b)∧wr.ownsRow u1.heap.size 3 1 (.slice ao LA.length cap) LA.length (B.ints LA)) (fun vi _=>LA.length-(intOf vi).toNat)
   case atStart=>exact⟨0,Nat.zero_le _,rfl,HM2,HG2,HO⟩
   case round=>
    obtain⟨k,hk,rfl,hMk,hGk,hOk⟩:=hrel
    by_cases hlt:k<LA.length
    ·obtain⟨a,ha⟩:∃a,LA[k]? =some a:=⟨LA[k],List.getElem?_eq_getElem hlt⟩
     have ha64:=HL k a ha
     obtain⟨ao2,cap2,e2,_,_,hao2⟩:=zD hOk
     cases e2
     obtain⟨kb,rfl,hkb1,hkb2,hcell⟩:=hao2 om
     have hc1:=hcell k _ (ints_at LA k a ha)
     have HN:=hid (And.intro hGk (And.intro hOk hkb1))
     have HA:=hid ha
     clear hGk hOk hao2 hcell ha
     go_wp2_with ((with_reducible refine zg rfl _ _ _ rfl ?_);refine⟨b,_,_,c,_,t,0,.u8,rfl,rfl,om,zk ha64,size_u8A,hMk,?_⟩;intro W1 hP1 hM1)
     have hne:b≠kb:=by have:=HN.2.2;have:=HU.out;omega
     have HR:=hid (And.intro (A.put_grown HN.1 hP1) (hP1.owns HN.2.1 (A.owns_ne HN.2.1 HU)))
     have HM3:Hid (A.MvAt W1 b (A.wipe q (LA.take (k+1))) c (f,(G:Int),p,d,ca) t):=hid (by
      rw [zba LA k a HA.out,A.wipe_snoc];exact hM1)
     clear hM1 hMk hP1 hc1
     go_roundw
     case rel=>exact⟨k+1,by omega,by go_num,HM3,HR.1,HR.2⟩
     case measure=>simp [intOf];omega
    ·obtain rfl:k=LA.length:=by omega
     rw [List.take_length]at hMk
     go_wp2
     first|refine bodyPost_end (results_none rfl _ _ _) rfl ?_|refine bodyPost_ret (results_none rfl _ _ _) rfl ?_
     exact⟨rfl,⟨by rw [E.out];exact hMk,hGk⟩⟩
  ·have E:=hid (show A.blow q (f,(G:Int),p,d,ca) t=q by unfold A.blow;rw [if_pos (.inr (of_decide_eq_true d2))])
   clear hq
   go_enter func54,ntmps54
   go_wp2
   first|refine bodyPost_end (results_none rfl _ _ _) rfl ?_|refine bodyPost_ret (results_none rfl _ _ _) rfl ?_
   exact⟨rfl,⟨by rw [E.out];exact hM,World.grownBy.refl _ _⟩⟩
 ·have E:=hid (show A.blow q (f,(G:Int),p,d,ca) t=q by unfold A.blow;rw [if_pos (.inl (by simpa using d1))])
  clear hq
  go_enter func54,ntmps54
  go_wp2
  first|refine bodyPost_end (results_none rfl _ _ _) rfl ?_|refine bodyPost_ret (results_none rfl _ _ _) rfl ?_
  exact⟨rfl,⟨by rw [E.out];exact hM,World.grownBy.refl _ _⟩⟩
end
end Go.Proofs.YtbakeajgolhkgaaGreatDoor
