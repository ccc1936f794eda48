import Derived.Laws.AppendOwnNone
import Derived.Shelf.SlSortCmp.QuietGrown
import Derived.Lib.SliceRun
import Derived.Test.YtbakeajgolhkgaaGreatDoorZc
set_option maxRecDepth 100000
set_option maxHeartbeats 8000000
open Go.Lib (hid)
namespace Go.Proofs.YtbakeajgolhkgaaGreatDoor
open Go.Proofs.Tryz
section
open Go.RowKit Go.Sort
attribute [local go_sem] Oper.semAt_some
abbrev Mv:=Int×Int×Int×Int×Bool
namespace M
theorem below_drew{B:Nat}{a w:World}(h:Below B a w)(n:Nat):Below B a (w.drewN n):=⟨h.os,h.tape,h.output,h.size,h.block⟩
def cell(m:Mv):List Value:=[.int .i8 m.1,.int .i8 m.2.1,.int .u8 m.2.2.1,.int .u8 m.2.2.2.1,.bool m.2.2.2.2]
def cells(l:List Mv):List Value:=l.flatMap cell
theorem cells_snoc(l:List Mv)(x:Mv):cells (l++[x])=cells l++cell x:=by simp [cells]
theorem cells_at(l:List Mv)(i:Nat)(x:Mv)(h:l[i]? =some x)(j:Nat)(v:Value)(hv:(cell x)[j]? =some v):(cells l)[i*5+j]? =some v:=by
 induction l generalizing i with
 |nil=>cases h
 |cons a l ih=>
  unfold cells
  rw [List.flatMap_cons]
  cases i with
  |zero=>
   simp at h
   subst h
   have:j<(cell a).length:=(List.getElem?_eq_some_iff.1 hv).1
   rw [List.getElem?_append_left om,Nat.zero_mul,Nat.zero_add,hv]
  |succ i=>
   rw [List.getElem?_append_right (by simp [cell];omega),show(i+1)*5+j-(cell a).length=i*5+j by simp [cell];omega]
   exact ih i (by simpa using h)
def At(w:World)(b off:Nat)(x:Mv):Prop:=w.rangeAt b off (cell x)
theorem at_of{w:World}{b:Nat}{l:List Mv}(h:∀j u,(cells l)[j]? =some u→w.cell? ⟨b,j,none⟩=some u)(i:Nat)(x:Mv)(hx:l[i]? =some x):At w b (i*5) x:=fun j v hv=>h _ _ (cells_at l i x hx j v hv)
theorem At.below{w w':World}{b off:Nat}{x:Mv}(h:At w b off x)(hb:Below w.heap.size w w'):At w' b off x:=fun j v hv=>by
 have:=h j v hv
 exact(hb.cell (p:=⟨b,off+j,none⟩) (World.block_lt_of_cell? w _ this)).trans this
theorem At.five{w:World}{b off:Nat}{f g p d:Int}{c:Bool}(h:At w b off (f,g,p,d,c)):w.cell? ⟨b,off,none⟩=some (.int .i8 f)∧w.cell? ⟨b,off+1,none⟩=some (.int .i8 g)∧w.cell? ⟨b,off+2,none⟩=some (.int .u8 p)∧w.cell? ⟨b,off+3,none⟩=some (.int .u8 d)∧w.cell? ⟨b,off+4,none⟩=some (.bool c):=
 ⟨h 0 _ rfl,h 1 _ rfl,h 2 _ rfl,h 3 _ rfl,h 4 _ rfl⟩
theorem row_open{w:World}{base:Nat}{e:TypeId}{v:Value}{n:Nat}{xs:List Value}(h:w.ownsRow base e 5 v n xs):
  ∃ao cap,v= .slice ao n cap∧n≤cap∧cap≤maxLen∧(0<n→∃b,ao=some ⟨b,0,none⟩∧base≤b∧b<w.heap.size∧∀j u,xs[j]? =some u→w.cell? ⟨b,j,none⟩=some u):=by
 rcases h.2 with⟨rfl,rfl⟩|⟨g,cap,cur,rfl,hb,hg,hnc,hcm,hcs,htake⟩
 ·exact⟨_,_,rfl,Nat.le_refl _,by unfold maxLen;omega,fun h=>absurd h om⟩
 ·refine⟨_,cap,rfl,hnc,hcm,fun _=>⟨g,rfl,hb,(Array.getElem?_eq_some_iff.1 hg).1,?_⟩⟩
  intro j u hu
  rw [←htake,List.getElem?_take]at hu
  split at hu
  ·simp only [World.cell?,hg]
   simpa using hu
  ·cases hu
end M
end
section
open Go.RowKit Go.Sort Go.Lib
theorem info_MoveO:(prog.info? 47).map (fun i=>(i.zero,i.size,i.bytes))=some (some (.agg #[.int .i8 0,.int .i8 0,.int .u8 0,.int .u8 0,.bool false]),5,5):=by kernel_rfl
theorem bytes_move:t47.bytes=5:=by kernel_rfl
theorem zfV(w:World)(n:Nat)(hn:n≤100000):((w.alloc (.cells (Builtin.zeroCells #[.int .i8 0,.int .i8 0,.int .u8 0,.int .u8 0,.bool false] n++Builtin.zeroCells #[.int .i8 0,.int .i8 0,.int .u8 0,.int .u8 0,.bool false] (grownCap w n 0 47-n)) 47)).drew).ownsRow w.heap.size 47 5 (.slice (some ⟨w.heap.size,0,none⟩) 0 (grownCap w n 0 47)) 0 []:=by
 have h1:=grownCap_ge w n 0 47
 have h2:=grownCap_le_maxLen w n 0 47 (by unfold maxLen;omega)
 refine⟨rfl,.inr ⟨_,_,_,rfl,Nat.le_refl _,heap_alloc_new w _,Nat.zero_le _,h2,?_,rfl⟩⟩
 rw [Array.size_append,size_zeroCells,size_zeroCells]
 show n*5+(grownCap w n 0 _-n)*5=_
 rw [←Nat.add_mul]
 congr 1
 omega
theorem zhn(n:Nat)(w:World)(hn:n≤100000):Calls prog 192 #[.slice none 0 0,.int .i64 (n:Int)] w fun e w'=>∃v,e= .returned v∧w'.ownsRow w.heap.size 47 5 v 0 []∧Below w.heap.size w w':=by
 by_cases h:n=0
 ·subst h
  go_enter func192,ntmps192
  go_wp2
  go_ret
  exact⟨_,rfl,⟨rfl,.inl ⟨rfl,rfl⟩⟩,Below.refl _ _⟩
 ·have h0:(0:Int)<(n:Int):=by omega
  have hB:=bytes_move
  have hC:Builtin.nextslicecap n 0=n:=by unfold Builtin.nextslicecap;rw [if_pos om]
  have hO:=hid (zfV w n hn)
  go_enter func192,ntmps192
  go_wp2
  go_ret
  exact⟨_,rfl,hO.out,bA.drew⟩
namespace M
def Reads(w:World)(v:Value)(l:List Mv):Prop:=
 ∃ao cap,v= .slice ao l.length cap∧l.length≤cap∧cap≤maxLen∧(ao=none→l.length=0∧cap=0)∧(0<l.length→∃b off,ao=some ⟨b,off,none⟩∧b<w.heap.size∧∀j u,(cells l)[j]? =some u→w.cell? ⟨b,off+j,none⟩=some u)
theorem Reads.below{w w':World}{v:Value}{l:List Mv}(h:Reads w v l)(hb:Below w.heap.size w w'):Reads w' v l:=by
 obtain⟨ao,cap,h1,h2,h3,h4,h5⟩:=h
 refine⟨ao,cap,h1,h2,h3,h4,fun h=> ?_⟩
 obtain⟨b,off,k1,k2,k3⟩:=h5 h
 exact⟨b,off,k1,Nat.lt_of_lt_of_le k2 hb.size,fun j u hu=>(hb.cell (p:=⟨b,off+j,none⟩) k2).trans (k3 j u hu)⟩
theorem reads_own{w:World}{base:Nat}{T:TypeId}{v:Value}{l:List Mv}(h:w.ownsRow base T 5 v l.length (cells l)):Reads w v l:=by
 obtain⟨ao,cap,h1,h2,h3,h4⟩:=row_open h
 refine⟨ao,cap,h1,h2,h3,fun hn=> ?_,fun h0=> ?_⟩
 ·have:¬0<l.length:=fun h0=>by obtain⟨b,e,_⟩:=h4 h0;rw [hn]at e;cases e
  have hz:l.length=0:=by omega
  refine⟨hz,?_⟩
  rcases h.2 with⟨e,_⟩|⟨g,c,cur,e,_⟩
  ·rw [h1]at e;injection e
  ·rw [h1,hn]at e;injection e with e;cases e
 ·obtain⟨b,e,_,hb,hc⟩:=h4 h0
  exact⟨b,0,e,hb,fun j u hu=>by rw [Nat.zero_add];exact hc j u hu⟩
theorem cells_len(l:List Mv):(cells l).length=l.length*5:=by
 induction l with
 |nil=>rfl
 |cons a l ih=>unfold cells at*;rw [List.flatMap_cons,List.length_append,ih];simp [cell];omega
theorem cells_app(a b:List Mv):cells (a++b)=cells a++cells b:=by simp [cells]
theorem cells_one(l:List Mv):∀u∈cells l,u.oneCell'=true:=by
 intro u hu
 unfold cells at hu
 rw [List.mem_flatMap]at hu
 obtain⟨x,_,hx⟩:=hu
 simp [cell]at hx
 rcases hx with rfl|rfl|rfl|rfl|rfl<;>rfl
def cat(ps:List (Value×List Mv))(i:Nat):List Mv:=(ps.take i).flatMap (·.2)
theorem cat_succ{ps:List (Value×List Mv)}{i:Nat}{x:Value×List Mv}(h:ps[i]? =some x):cat ps (i+1)=cat ps i++x.2:=by
 unfold cat;rw [List.take_add_one,h,List.flatMap_append];simp
theorem cat_le(ps:List (Value×List Mv))(i:Nat):(cat ps i).length≤(cat ps ps.length).length:=by
 have e:(ps.take i)++(ps.drop i)=ps:=List.take_append_drop i ps
 unfold cat
 rw [List.take_length]
 conv=>rhs;rw [←e]
 rw [List.flatMap_append,List.length_append]
 omega
end M
theorem zeW(bp cp:Nat)(ps:List (Value×List Mv))(w:World)(hcp:ps.length≤cp)(hps:ps.length≤100)(hc:∀j x,ps[j]? =some x→w.cell? ⟨bp,j,none⟩=some x.1)(hbp:bp<w.heap.size)(hr:∀(j:Nat) (x:Value×List Mv),ps[j]? =some x→M.Reads w x.1 x.2)(hn:(M.cat ps ps.length).length≤100000):
  Calls prog 117 #[.slice (some ⟨bp,0,none⟩) ps.length cp] w fun e w'=>∃v,e= .returned v∧w'.ownsRow w.heap.size 47 5 v (M.cat ps ps.length).length (M.cells (M.cat ps ps.length))∧Below w.heap.size w w':=by
 obtain⟨q,hq⟩:∃q,ps.length=q:=⟨_,rfl⟩
 have Hq:=hid hq
 have HC:=hid (fun W (hb:Below w.heap.size w W) j x (hx:ps[j]? =some x)=>(show W.cell? ⟨bp,j,none⟩=some x.1 from(hb.cell (p:=⟨bp,j,none⟩) hbp).trans (hc j x hx)))
 have HR:=hid (fun W (hb:Below w.heap.size w W) j x (hx:ps[j]? =some x)=>(hr j x hx).below hb)
 have HN:=hid hn
 rw [hq]at hcp hps⊢
 clear hq hc hr hn
 obtain⟨i0,hi,hz0,hz1,hz2⟩:=info_parts info_MoveO
 go_enter func117,ntmps117
 go_wp2
 go_loopw [3,11] (fun vs vi wr=>∃i:Nat,i≤q∧vi= .int .i64 (i:Int)∧vs= .int .i64 ((M.cat ps i).length:Int)∧wr=w) (fun _ vi _=>q-(RowKit.intOf vi).toNat)
 case atStart=>exact⟨0,by omega,rfl,rfl,rfl⟩
 case round=>
  obtain⟨i,hiq,rfl,rfl,hww⟩:=hrel
  subst wr
  by_cases hlt:i<q
  ·obtain⟨x,hx⟩:∃x,ps[i]? =some x:=⟨_,List.getElem?_eq_getElem (by rw [Hq.out];exact hlt)⟩
   have h1:=HC _ (Below.refl _ _) i x hx
   obtain⟨ao,cap,e1,h2,h3,h4,h5⟩:=HR _ (Below.refl _ _) i x hx
   rw [e1]at h1
   have hs:=M.cat_succ hx
   have hl:=M.cat_le ps (i+1)
   have hn:=HN.out
   rw [Hq.out]at hn hl
   have hl2:(M.cat ps (i+1)).length=(M.cat ps i).length+x.2.length:=by rw [hs,List.length_append]
   clear hs e1 h5 h4 hx
   go_wp2
   go_roundw
   case measure=>simp [RowKit.intOf];omega
   case rel=>exact⟨i+1,by omega,by go_num,by rw [hl2];go_num,by first|rfl|trivial⟩
  ·obtain rfl:i=q:=by omega
   clear hlt hiq
   have hn:=HN.out
   rw [Hq.out]at hn
   go_wp2_with (go_at_call 192;refine(zhn _ _ hn).mono ?_;rintro e w1 ⟨v1,rfl,hown,hb⟩)
   have HB:=hid hb
   obtain⟨B,hB⟩:∃B,w.heap.size=B:=⟨_,rfl⟩
   rw [hB]at hown hb
   have HBB:=hid hB
   have hbs1:=hb.size
   go_loopw [6,27] (fun vs vj wr=>∃(j:Nat) (v:Value),j≤i∧vj= .int .i64 (j:Int)∧vs=v∧wr.ownsRow B 47 5 v (M.cat ps j).length (M.cells (M.cat ps j))∧Below B w wr) (fun _ vj _=>i-(RowKit.intOf vj).toNat)
   case atStart=>exact⟨0,v1,by omega,rfl,rfl,hown,hb⟩
   case round=>
    clear hown hb
    obtain⟨j,v,hji,rfl,rfl,hown,hb⟩:=hrel
    by_cases hlt:j<i
    ·obtain⟨x,hx⟩:∃x,ps[j]? =some x:=⟨_,List.getElem?_eq_getElem (by rw [Hq.out];exact hlt)⟩
     have hb':Below w.heap.size w wr:=by rw [HBB.out];exact hb
     have h1:=HC _ hb' j x hx
     obtain⟨ao,cap,e1,h2,h3,h4,h5⟩:=HR _ hb' j x hx
     rw [e1]at h1
     have hs:=M.cat_succ hx
     have hl:=M.cat_le ps (j+1)
     rw [Hq.out]at hl
     have hl2:(M.cat ps (j+1)).length=(M.cat ps j).length+x.2.length:=by rw [hs,List.length_append]
     have hbs:B≤wr.heap.size:=by have:=hb.size;rw [HBB.out]at this;exact this
     have hs2:M.cells (M.cat ps (j+1))=M.cells (M.cat ps j)++M.cells x.2:=by rw [hs,M.cells_app]
     have HS:=hid (And.intro hl2 hs2)
     clear hs hs2 hx e1
     by_cases hz:0<x.2.length
     ·obtain⟨b,off,rfl,hbb,hcc⟩:=h5 hz
      clear h4
      go_wp2_with (first
     |(at_builtin;refine wpList_append_own _ rfl _ _ 39 rfl B 47 i0 (.agg #[.int .i8 0,.int .i8 0,.int .u8 0,.int .u8 0,.bool false]) 5 5 underlying39 hi hz0 hz1 hz2 rfl dc _ _ _ rfl hown ⟨b,off,none⟩ x.2.length cap (M.cells x.2) rfl (M.cells_len _) (fun j u hu=>by rw [Addr.add_lit];exact hcc j u hu) (M.cells_one _) (by unfold maxLen;omega) om hbs ?_;intro v' w1 hown' hgrow _)
     |fail)
      refine⟨⟨j+1,v',by omega,by go_num,by first|rfl|trivial,?_,hb.grown hgrow hbs (fun q hq=>(hown.lt q hq).1)⟩,by simp [RowKit.intOf];omega⟩
      rw [HS.out.1,HS.out.2]
      exact hown'
     ·have hz1:x.2.length=0:=by omega
      have hz2:M.cells x.2=[]:=List.eq_nil_of_length_eq_zero (by rw [M.cells_len];omega)
      cases ao with
      |none=>
       obtain⟨_,rfl⟩:=h4 rfl
       rw [hz1]at h1
       clear h5 h4
       go_wp2_with (first
        |(at_builtin;refine wpList_append_own_none rfl _ _ 39 rfl B 47 i0 5 underlying39 hi _ _ _ rfl hown rfl ?_)
        |fail)
       refine⟨⟨j+1,_,by omega,by go_num,rfl,?_,hb⟩,by simp [RowKit.intOf];omega⟩
       rw [HS.out.1,HS.out.2,hz1,hz2,Nat.add_zero,List.append_nil]
       exact hown
      |some ad=>
       have HZ:=hid (And.intro hz1 hz2)
       clear h5 h4 hz hz1 hz2
       go_wp2_with (first
      |(at_builtin;refine wpList_append_own _ rfl _ _ 39 rfl B 47 i0 (.agg #[.int .i8 0,.int .i8 0,.int .u8 0,.int .u8 0,.bool false]) 5 5 underlying39 hi hz0 hz1 hz2 rfl dc _ _ _ rfl hown ad x.2.length cap (M.cells x.2) rfl (M.cells_len _) (fun j u hu=>by rw [HZ.out.2]at hu;cases hu) (M.cells_one _) (by unfold maxLen;omega) om hbs ?_;intro v' w1 hown' hgrow _)
      |fail)
       refine⟨⟨j+1,v',by omega,by go_num,by first|rfl|trivial,?_,hb.grown hgrow hbs (fun q hq=>(hown.lt q hq).1)⟩,by simp [RowKit.intOf];omega⟩
       rw [HS.out.1,HS.out.2]
       exact hown'
    ·obtain rfl:j=i:=by omega
     go_wp2
     go_ret
     exact⟨_,rfl,by rw [HBB.out];exact hown,by rw [HBB.out];exact hb⟩
end
section
open Go.RowKit Go.Sort
def GrowW(w w':World):Prop:=∃q os,w'=grow (w.drewN q) os
theorem GrowW.refl(w:World):GrowW w w:=⟨0,#[],by rw [grow_empty];rfl⟩
theorem GrowW.trans{a b c:World}(h:GrowW a b)(k:GrowW b c):GrowW a c:=by
 obtain⟨q,os,rfl⟩:=h
 obtain⟨q',os',rfl⟩:=k
 exact⟨q+q',os++os',by show grow (grow ((a.drewN q).drewN q') os) os'=_;rw [grow_grow,World.drewN_drewN]⟩
theorem GrowW.alloc(w:World)(o:Obj):GrowW w (w.alloc o):=⟨0,#[o],by rw [alloc_eq_grow];rfl⟩
theorem GrowW.drewN(w:World)(n:Nat):GrowW w (w.drewN n):=⟨n,#[],by rw [grow_empty]⟩
theorem GrowW.grown(w:World)(n:Nat)(os:Array Obj):GrowW w (grow (w.drewN n) os):=⟨n,os,rfl⟩
theorem GrowW.below{w w':World}(h:GrowW w w'):Below w.heap.size w w':=by
 obtain⟨q,os,rfl⟩:=h
 refine⟨rfl,rfl,rfl,?_,fun k hk=> ?_⟩
 ·show w.heap.size≤(w.heap++os).size
  simp
 ·show(w.heap++os)[k]? =w.heap[k]?
  rw [Array.getElem?_append_left hk]
namespace M
def noneTo(l:List Mv)(m:Mv)(n:Nat):Prop:=∀j,j<n→l[j]?≠some m
theorem noneTo_succ{l:List Mv}{m x:Mv}{n:Nat}(h:noneTo l m n)(hx:l[n]? =some x)(hne:x≠m):noneTo l m (n+1):=fun j hj=>by
 by_cases e:j=n
 ·subst e;rw [hx];intro e;exact hne (Option.some.inj e)
 ·exact h j om
def Found(l:List Mv)(m:Mv)(r:Int):Prop:=(∃i:Nat,r=(i:Int)∧l[i]? =some m∧noneTo l m i)∨(r= -1∧noneTo l m l.length)
end M
theorem zf1(l:List Mv)(v:Value)(f' g' p' d':Int)(c':Bool)(w:World)(hr:M.Reads w v l)(hN:l.length≤100000):
  Calls prog 116 #[v,.agg #[.int .i8 f',.int .i8 g',.int .u8 p',.int .u8 d',.bool c']] w fun e w'=>∃r,e= .returned (.int .i64 r)∧M.Found l (f',g',p',d',c') r∧GrowW w w':=by
 obtain⟨ao,cap,rfl,h1,h2,h3,h4⟩:=hr
 by_cases h0:0<l.length
 ·obtain⟨b,off,rfl,hb,hcell⟩:=h4 h0
  have HA:=hid (fun W (hb':Below w.heap.size w W) i x (hx:l[i]? =some x)=>(show M.At W b (off+i*5) x from fun j u hu=>by
   have hh:=hcell (i*5+j) u (M.cells_at l i x hx j u hu)
   rw [Nat.add_assoc]
   exact(hb'.cell (p:=⟨b,off+(i*5+j),none⟩) hb).trans hh))
  clear hcell h4 h3
  obtain⟨q,hq⟩:∃q,l.length=q:=⟨_,rfl⟩
  have Hq:=hid hq
  rw [hq]at h0 h1 hN⊢
  clear hq
  go_enter func116,ntmps116
  go_wp2
  have HG:GrowW w (w.alloc (.cells #[.int .i8 f',.int .i8 g',.int .u8 p',.int .u8 d',.bool c'] 47)):=GrowW.alloc _ _
  have HV:=hid (RowAt.new w #[.int .i8 f',.int .i8 g',.int .u8 p',.int .u8 d',.bool c'] 47)
  go_loopw [8] (fun vi wr=>∃n:Nat,n≤q∧vi= .int .i64 (n:Int)∧Hid (M.noneTo l (f',g',p',d',c') n)∧GrowW (w.alloc (.cells #[.int .i8 f',.int .i8 g',.int .u8 p',.int .u8 d',.bool c'] 47)) wr) (fun vi _=>q-(intOf vi).toNat)
  case atStart=>exact⟨0,by omega,rfl,hid (fun j hj=>by omega),GrowW.refl _⟩
  case round=>
   obtain⟨n,hn,rfl,HN,hgr⟩:=hrel
   have hgw:=HG.trans hgr
   by_cases hlt:n<q
   ·obtain⟨⟨f,g,p,d,c⟩,hx⟩:∃m,l[n]? =some m:=⟨_,List.getElem?_eq_getElem (by rw [Hq.out];exact hlt)⟩
    obtain⟨m0,m1,m2,m3,m4⟩:=(HA wr hgw.below n _ hx).five
    have hv:=HV.below hgr.below
    have k0:=hv.cell 0
    have k1:=hv.cell 1
    have k2:=hv.cell 2
    have k3:=hv.cell 3
    have k4:=hv.cell 4
    simp only [List.getElem?_toArray,List.getElem?_cons_zero,List.getElem?_cons_succ]at k0 k1 k2 k3 k4
    have HX:=hid hx
    clear hx hv
    by_cases h0:f'=f
    ·subst h0
     by_cases h1:g'=g
     ·subst h1
      by_cases h2:p'=p
      ·subst h2
       by_cases h3:d'=d
       ·subst h3
        by_cases h4:c'=c
        ·subst h4
         go_wp2
         go_quiet (fail)
         go_wp2
         go_ret
         exact⟨_,rfl,.inl ⟨n,rfl,HX,HN⟩,hgw.trans (GrowW.drewN _ _)⟩
        ·have e5:(c'==c)=false:=by simpa using h4
         have Hd:=hid (show(f',g',p',d',c)≠(f',g',p',d',c')from fun e=>h4 (by injections;first|assumption|exact Eq.symm asm))
         clear h4
         go_wp2
         go_quiet (fail)
         go_wp2
         exact⟨⟨n+1,by omega,by go_num,hid (M.noneTo_succ HN HX Hd),hgr.trans (GrowW.drewN _ _)⟩,by simp [intOf];omega⟩
       ·have e5:(d'==d)=false:=by simpa using h3
        have Hd:=hid (show(f',g',p',d,c)≠(f',g',p',d',c')from fun e=>h3 (by injections;first|assumption|exact Eq.symm asm))
        clear h3
        go_wp2
        go_quiet (fail)
        go_wp2
        exact⟨⟨n+1,by omega,by go_num,hid (M.noneTo_succ HN HX Hd),hgr.trans (GrowW.drewN _ _)⟩,by simp [intOf];omega⟩
      ·have e5:(p'==p)=false:=by simpa using h2
       have Hd:=hid (show(f',g',p,d,c)≠(f',g',p',d',c')from fun e=>h2 (by injections;first|assumption|exact Eq.symm asm))
       clear h2
       go_wp2
       go_quiet (fail)
       go_wp2
       exact⟨⟨n+1,by omega,by go_num,hid (M.noneTo_succ HN HX Hd),hgr.trans (GrowW.drewN _ _)⟩,by simp [intOf];omega⟩
     ·have e5:(g'==g)=false:=by simpa using h1
      have Hd:=hid (show(f',g,p,d,c)≠(f',g',p',d',c')from fun e=>h1 (by injections;first|assumption|exact Eq.symm asm))
      clear h1
      go_wp2
      go_quiet (fail)
      go_wp2
      exact⟨⟨n+1,by omega,by go_num,hid (M.noneTo_succ HN HX Hd),hgr.trans (GrowW.drewN _ _)⟩,by simp [intOf];omega⟩
    ·have e5:(f'==f)=false:=by simpa using h0
     have Hd:=hid (show(f,g,p,d,c)≠(f',g',p',d',c')from fun e=>h0 (by injections;first|assumption|exact Eq.symm asm))
     clear h0
     go_wp2
     go_quiet (fail)
     go_wp2
     exact⟨⟨n+1,by omega,by go_num,hid (M.noneTo_succ HN HX Hd),hgr.trans (GrowW.drewN _ _)⟩,by simp [intOf];omega⟩
   ·obtain rfl:n=q:=by omega
    go_wp2
    go_ret
    exact⟨_,rfl,.inr ⟨rfl,by rw [Hq.out];exact HN.out⟩,hgw⟩
 ·have hz:l.length=0:=by omega
  rw [hz]
  go_enter func116,ntmps116
  go_wp2
  refine wp_loop_rounds 1 ?_
  rw [rounds_succ]
  go_wp2
  go_ret
  exact⟨_,rfl,.inr ⟨rfl,fun j hj=>by omega⟩,GrowW.alloc _ _⟩
theorem zfG{l:List Mv}{m:Mv}{r:Int}(h:M.Found l m r):(decide (0≤r))=decide (m∈l):=by
 rcases h with⟨i,rfl,hi,_⟩|⟨rfl,hn⟩
 ·rw [decide_eq_true om,decide_eq_true (List.mem_of_getElem? hi)]
 ·rw [decide_eq_false om,decide_eq_false]
  intro hm
  obtain⟨i,hi⟩:=List.mem_iff_getElem?.1 hm
  exact hn i (List.getElem?_eq_some_iff.1 hi).1 hi
theorem zaX(l:List Mv)(v:Value)(f' g' p' d':Int)(c':Bool)(w:World)(hr:M.Reads w v l)(hN:l.length≤100000):
  cB 49 #[v,.agg #[.int .i8 f',.int .i8 g',.int .u8 p',.int .u8 d',.bool c']] w (.bool (decide ((f',g',p',d',c')∈l))):=by
 have hb0:Below w.heap.size w (w.alloc (.cells #[.int .i8 f',.int .i8 g',.int .u8 p',.int .u8 d',.bool c'] 47)):=bA
 have HR:=hid (hr.below hb0)
 have HB:=hid hb0
 have HN:=hid hN
 clear hr hb0 hN
 go_enter func49,ntmps49
 go_wp2_with (go_at_call 116;refine(zf1 l v f' g' p' d' c' _ HR HN).mono ?_;rintro e w2 ⟨r,rfl,hf,hg⟩;have HF:=hid (zfG hf);have HG:=hid hg.below;clear hf hg)
 go_ret
 exact⟨zy HF,za HB HG⟩
theorem zbE{w w':World}{base:Nat}{e:TypeId}{size:Nat}{v:Value}{n:Nat}{xs:List Value}(ho:w.ownsRow base e size v n xs)(h:∀g,v.ownBlock=some g→w'.heap[g]? =w.heap[g]?):w'.ownsRow base e size v n xs:=by
 refine⟨ho.1,?_⟩
 rcases ho.2 with⟨rfl,rfl⟩|⟨g,cap,cur,rfl,hb,hg,h1,h2,h3,h4⟩
 ·exact .inl ⟨rfl,rfl⟩
 ·exact .inr ⟨g,cap,cur,rfl,hb,(h g rfl).trans hg,h1,h2,h3,h4⟩
theorem RowAt.not_own{w:World}{g:Nat}{T:TypeId}{cs:Array Value}{base:Nat}{e:TypeId}{s:Nat}{v:Value}{n:Nat}{xs:List Value}(h:RowAt w g T cs)(h':w.ownsRow base e s v n xs)(hne:T≠e):v.ownBlock≠some g:=by
 intro hg
 rcases h'.2 with⟨rfl,rfl⟩|⟨g2,cap',cur',rfl,_,hh',_⟩
 ·cases hg
 cases hg
 rw [h.heap]at hh'
 cases hh'
 exact hne rfl
theorem zD{w:World}{base:Nat}{e:TypeId}{v:Value}{n:Nat}{xs:List Value}(h:w.ownsRow base e 1 v n xs):
  ∃ao cap,v= .slice ao n cap∧n≤cap∧cap≤maxLen∧(0<n→∃b,ao=some ⟨b,0,none⟩∧base≤b∧b<w.heap.size∧∀j u,xs[j]? =some u→w.cell? ⟨b,j,none⟩=some u):=by
 rcases h.2 with⟨rfl,rfl⟩|⟨g,cap,cur,rfl,hb,hg,hnc,hcm,hcs,htake⟩
 ·exact⟨_,_,rfl,Nat.le_refl _,by unfold maxLen;omega,fun h=>absurd h om⟩
 ·refine⟨_,cap,rfl,hnc,hcm,fun _=>⟨g,rfl,hb,(Array.getElem?_eq_some_iff.1 hg).1,?_⟩⟩
  intro j u hu
  rw [←htake,List.getElem?_take]at hu
  split at hu
  ·simp only [World.cell?,hg]
   simpa using hu
  ·cases hu
theorem zhe(m N:Nat)(h:m<N)(hN:N≤1000000):Value.int .i64 (wrap64 ((m:Int)+1))= .int .i64 ((m+1:Nat):Int)∧N-(intOf (Value.int .i64 (wrap64 ((m:Int)+1)))).toNat<N-(intOf (Value.int .i64 (m:Int))).toNat:=by
 have hw:wrap64 ((m:Int)+1)=((m+1:Nat):Int):=by rw [IntWalk.wrap64_in _ ⟨by omega,by omega⟩];rfl
 rw [hw]
 refine⟨rfl,?_⟩
 show N-(((m+1:Nat):Int)).toNat<N-((m:Int)).toNat
 rw [Int.toNat_natCast,Int.toNat_natCast]
 omega
theorem zdr(m N:Nat)(h:m<N):Value.int .i64 ((m:Int)+1)= .int .i64 ((m+1:Nat):Int)∧N-(intOf (Value.int .i64 ((m:Int)+1))).toNat<N-(intOf (Value.int .i64 (m:Int))).toNat:=by
 have hw:((m:Int)+1)=((m+1:Nat):Int):=rfl
 rw [hw]
 refine⟨rfl,?_⟩
 show N-(((m+1:Nat):Int)).toNat<N-((m:Int)).toNat
 rw [Int.toNat_natCast,Int.toNat_natCast]
 omega
end
section
open Go.RowKit Go.Sort
attribute [local go_sem] Oper.semAt_some
theorem Lg.info_mv:(prog.info? 47).map (fun i=>(i.zero,i.size,i.bytes))=some (some (.agg #[.int .i8 0,.int .i8 0,.int .u8 0,.int .u8 0,.bool false]),5,5):=by kernel_rfl
theorem A.append_reads{ops:Array Oper}{rest:List Oper}{o:Oper}{a:Act}{w:World}{Q:Exit→Act→World→Prop}(hgd:o.guard=none)(s x:Operand)
  (ho:o.op= .call {callee:= .builtin .append,args:= #[s,x],argTypes:= #[39,39]})
  (base:Nat) (v:Value) (n:Nat) (xs:List Value) (hs:a.eval s=v) (hown:w.ownsRow base 47 5 v n xs) (u:Value) (l:List Mv) (hx:a.eval x=u) (hr:M.Reads w u l) (hN:n+l.length≤100000) (hbase:base≤w.heap.size)
  (h:∀v' w',w'.ownsRow base 47 5 v' (n+l.length) (xs++M.cells l)→w.grownBy w' v.ownBlock→wpList prog ops Q rest (a.put o.dst v') w'):wpList prog ops Q (o::rest) a w:=by
 obtain⟨i0,hi,hz0,hz1,hz2⟩:=info_parts Lg.info_mv
 obtain⟨ao,cap,rfl,h2,h3,h4,h5⟩:=hr
 by_cases hz:0<l.length
 ·obtain⟨b,off,rfl,hbb,hcc⟩:=h5 hz
  exact wpList_append_own _ hgd _ _ 39 ho base 47 i0 (.agg #[.int .i8 0,.int .i8 0,.int .u8 0,.int .u8 0,.bool false]) 5 5 underlying39 hi hz0 hz1 hz2 rfl dc _ _ _ hs hown ⟨b,off,none⟩ l.length cap (M.cells l) hx (M.cells_len _) (fun j u hu=>by rw [Addr.add_lit];exact hcc j u hu) (M.cells_one _) (by unfold maxLen;omega) om hbase (fun v' w' h1 h2 _=>h v' w' h1 h2)
 ·have e0:l=[]:=List.eq_nil_of_length_eq_zero om
  subst e0
  cases ao with
  |none=>
   obtain⟨_,rfl⟩:=h4 rfl
   refine wpList_append_own_none hgd _ _ 39 ho base 47 i0 5 underlying39 hi _ _ _ hs hown hx (h v w (by simpa [M.cells]using hown) ⟨rfl,rfl,rfl,Nat.le_refl _,fun _ _ _=>rfl⟩)
  |some ad=>
   exact wpList_append_own _ hgd _ _ 39 ho base 47 i0 (.agg #[.int .i8 0,.int .i8 0,.int .u8 0,.int .u8 0,.bool false]) 5 5 underlying39 hi hz0 hz1 hz2 rfl dc _ _ _ hs hown ad 0 cap (M.cells []) hx rfl (fun j u hu=>by cases hu) (M.cells_one _) (by unfold maxLen;omega) om hbase (fun v' w' h1 h2 _=>h v' w' h1 h2)
end
section
open Go.RowKit Go.Sort
namespace Lg
theorem size_mv(n:Nat)(h:n=5):(prog.info? 47).map (·.size)=some n:=by subst h;kernel_rfl
def Pred(f b:Nat)(l:List Mv)(g:Mv→Bool)(B:Nat)(w:World):Prop:=
 ∀W,Below B w W→∀m,m∈l→Calls prog f #[.agg (M.cell m).toArray,.pointer (some ⟨b,0,none⟩)] W fun e W'=>e= .returned (.bool (g m))∧Below W.heap.size W W'
theorem Pred.next{f b B:Nat}{l:List Mv}{g:Mv→Bool}{w w':World}(h:Pred f b l g B w)(hb:Below B w w'):Pred f b l g B w':=fun W hW m hm=>h W (hb.trans hW) m hm
def Found(l:List Mv)(g:Mv→Bool)(r:Int):Prop:=(∃i:Nat,r=(i:Int)∧(∃m,l[i]? =some m∧g m=true)∧∀j x,j<i→l[j]? =some x→g x=false)∨(r= -1∧∀x,x∈l→g x=false)
theorem found_any{l:List Mv}{g:Mv→Bool}{r:Int}(h:Found l g r):decide (0≤r)=l.any g:=by
 rcases h with⟨i,rfl,⟨m,hm,hg⟩,_⟩|⟨rfl,hn⟩
 ·rw [decide_eq_true om]
  exact(List.any_eq_true.2 ⟨m,List.mem_of_getElem? hm,hg⟩).symm
 ·rw [decide_eq_false om]
  refine(Bool.eq_false_iff.2 fun h=> ?_).symm
  obtain⟨x,hx,hg⟩:=List.any_eq_true.1 h
  rw [hn x hx]at hg
  cases hg
end Lg
theorem zcw(f b:Nat)(eg:∀args w,(callFunc f args).run prog w= .ok (.enter f args) w)(l:List Mv)(v:Value)(g:Mv→Bool)(w:World)(hr:M.Reads w v l)(hN:l.length≤100000)(hP:Lg.Pred f b l g w.heap.size w):
  Calls prog 186 #[v,.func (.func f) #[] #[.pointer (some ⟨b,0,none⟩)]] w fun e w'=>∃r,e= .returned (.int .i64 r)∧Lg.Found l g r∧Below w.heap.size w w':=by
 obtain⟨ao,cap,rfl,h1,h2,h3,h4⟩:=hr
 by_cases h0:0<l.length
 ·obtain⟨bb,off,rfl,hb,hcell⟩:=h4 h0
  have HA:=hid (fun W (hb':Below w.heap.size w W) i x (hx:l[i]? =some x)=>(show M.At W bb (off+i*5) x from fun j u hu=>by
   have hh:=hcell (i*5+j) u (M.cells_at l i x hx j u hu)
   rw [Nat.add_assoc]
   exact(hb'.cell (p:=⟨bb,off+(i*5+j),none⟩) hb).trans hh))
  have HP:=hid hP
  clear hcell h4 h3 hP
  obtain⟨q,hq⟩:∃q,l.length=q:=⟨_,rfl⟩
  have Hq:=hid hq
  rw [hq]at h0 h1 hN⊢
  clear hq
  go_enter func186,ntmps186
  go_wp2
  go_loopw [8] (fun vi wr=>∃n:Nat,n≤q∧vi= .int .i64 (n:Int)∧Hid (∀j x,j<n→l[j]? =some x→g x=false)∧Below w.heap.size w wr) (fun vi _=>q-(intOf vi).toNat)
  case atStart=>exact⟨0,by omega,rfl,hid (fun j x hj=>by omega),Below.refl _ _⟩
  case round=>
   obtain⟨n,hn,rfl,HN,hgr⟩:=hrel
   by_cases hlt:n<q
   ·obtain⟨m,hx⟩:∃m,l[n]? =some m:=⟨_,List.getElem?_eq_getElem (by rw [Hq.out];exact hlt)⟩
    have hat:=HA wr hgr n _ hx
    have HX:=hid hx
    have HC:=hid (HP wr hgr m (List.mem_of_getElem? hx))
    clear hx
    cases hg:g m
    ·rw [hg]at HC
     have HG:=hid hg
     clear hg
     go_wp2_with (first
      |(refine wpList_load_mid rfl 47 _ rfl bb (off+n*5) rfl (M.cell m) _ hat underlying47 rfl (Lg.size_mv _ rfl) ?_)
      |(go_at_fn f;refine HC.mono ?_;rintro e w2 ⟨rfl,hb2⟩))
     exact⟨⟨n+1,by omega,by go_num,hid (fun j x hj hx=>by
      by_cases e:j=n
      ·subst e;rw [HX.out]at hx;cases hx;exact HG.out
      ·exact HN j x om hx),za hgr hb2⟩,by simp [intOf];omega⟩
    ·rw [hg]at HC
     have HG:=hid hg
     clear hg
     go_wp2_with (first
      |(refine wpList_load_mid rfl 47 _ rfl bb (off+n*5) rfl (M.cell m) _ hat underlying47 rfl (Lg.size_mv _ rfl) ?_)
      |(go_at_fn f;refine HC.mono ?_;rintro e w2 ⟨rfl,hb2⟩))
     go_ret
     exact⟨_,rfl,.inl ⟨n,rfl,⟨m,HX,HG⟩,HN⟩,za hgr hb2⟩
   ·obtain rfl:n=q:=by omega
    go_wp2
    go_ret
    refine⟨_,rfl,.inr ⟨rfl,fun x hx=> ?_⟩,hgr⟩
    obtain⟨j,hj⟩:=List.mem_iff_getElem?.1 hx
    exact HN j x (by have:=(List.getElem?_eq_some_iff.1 hj).1;rw [Hq.out]at this;exact this) hj
 ·have hz:l.length=0:=by omega
  have hl:l=[]:=List.eq_nil_of_length_eq_zero hz
  subst hl
  go_enter func186,ntmps186
  go_wp2
  refine wp_loop_rounds 1 ?_
  rw [rounds_succ]
  go_wp2
  go_ret
  exact⟨_,rfl,.inr ⟨rfl,fun x hx=>by cases hx⟩,Below.refl _ _⟩
theorem zbn(f b:Nat)(eg:∀args w,(callFunc f args).run prog w= .ok (.enter f args) w)(l:List Mv)(v:Value)(g:Mv→Bool)(w:World)(hr:M.Reads w v l)(hN:l.length≤100000)(hP:Lg.Pred f b l g w.heap.size w):
  cB 101 #[v,.func (.func f) #[] #[.pointer (some ⟨b,0,none⟩)]] w (.bool (l.any g)):=by
 have HI:=hid (zcw f b eg l v g w hr hN hP)
 clear hr hN hP eg
 go_enter func101,ntmps101
 go_wp2_with (go_at_call 186;refine HI.mono ?_;rintro e w2 ⟨r,rfl,hf,hb⟩;have HF:=hid (Lg.found_any hf);clear hf)
 go_ret
 exact⟨zy HF,hb⟩
theorem Lg.owns_empty(w:World):(w.alloc (.cells #[] 47)).ownsRow w.heap.size 47 5 (.slice (some ⟨w.heap.size,0,none⟩) 0 0) 0 []:=
 ⟨rfl,.inr ⟨_,_,_,rfl,Nat.le_refl _,heap_alloc_new w _,Nat.le_refl _,by unfold maxLen;omega,rfl,rfl⟩⟩
theorem Lg.reads_none{w:World}{l:List Mv}{n c:Nat}(h:M.Reads w (.slice none n c) l):l=[]∧n=0∧c=0:=by
 obtain⟨ao,cap,h1,h2,h3,h4,h5⟩:=h
 injection h1 with h1 h6 h7
 obtain⟨k1,k2⟩:=h4 h1.symm
 exact⟨List.eq_nil_of_length_eq_zero k1,by omega,by omega⟩
theorem zgY(l:List Mv)(v:Value)(w:World)(hr:M.Reads w v l)(hN:l.length≤100000):
  Calls prog 95 #[v] w fun e w'=>∃v',e= .returned v'∧w'.ownsRow w.heap.size 47 5 v' l.length (M.cells l)∧Below w.heap.size w w':=by
 obtain⟨ao,n,cap,rfl⟩:∃ao n cap,v= .slice ao n cap:=by obtain⟨ao,cap,h1,_⟩:=hr;exact⟨_,_,_,h1⟩
 cases ao with
 |none=>
  obtain⟨rfl,rfl,rfl⟩:=Lg.reads_none hr
  clear hr
  have he:=fun w=>Lib.run_eql_slice_nil (P:=prog) w 39 47 none 0 0 0 0 underlying39
  go_enter func95,ntmps95
  go_wp2
  go_ret
  exact⟨_,rfl,World.ownsRow_nil _ _ _ _,Below.refl _ _⟩
 |some ad=>
  have he:=fun w=>Lib.run_eql_slice_nil (P:=prog) w 39 47 (some ad) n cap 0 0 underlying39
  have hb0:Below w.heap.size w (w.alloc (.cells #[] 47)):=bA
  have HR:=hid (hr.below hb0)
  have HO:=hid (Lg.owns_empty w)
  have HB:=hid hb0
  clear hr hb0
  go_enter func95,ntmps95
  go_wp2_with (at_builtin;refine A.append_reads rfl _ _ rfl w.heap.size _ 0 [] rfl HO _ l rfl HR om sp ?_;intro v' w' hown' hgrow)
  go_ret
  rw [Nat.zero_add,List.nil_append]at hown'
  exact⟨_,rfl,hown',HB.grown hgrow HB.size (fun q hq=>(HO.lt q hq).1)⟩
namespace Lg
theorem zbt(m:Mv):(M.cell m).length=5:=rfl
theorem za8(l:List Mv)(k:Nat):(M.cells l)[k]? =(l[k/5]?).bind fun m=>(M.cell m)[k % 5]?:=by
 induction l generalizing k with
 |nil=>simp [M.cells]
 |cons a l ih=>
  unfold M.cells
  rw [List.flatMap_cons]
  by_cases h:k<5
  ·rw [List.getElem?_append_left (by rw [zbt];exact h),Nat.div_eq_of_lt h,Nat.mod_eq_of_lt h];rfl
  ·obtain⟨j,rfl⟩:∃j,k=j+5:=⟨k-5,by omega⟩
   rw [List.getElem?_append_right (by rw [zbt];omega),zbt,Nat.add_sub_cancel,show(j+5)/5=j/5+1 by omega,show(j+5) % 5=j % 5 by omega,List.getElem?_cons_succ]
   exact ih j
def setSeg(cur:Array Value):Nat→List Value→Array Value
 |_,[]=>cur
 |o,v::r=>setSeg (cur.setIfInBounds o v) (o+1) r
theorem setSeg_size:∀(vs:List Value) (o:Nat) (cur:Array Value),(setSeg cur o vs).size=cur.size
 |[],_,_=>rfl
 |v::r,o,cur=>by unfold setSeg;rw [setSeg_size r,Array.size_setIfInBounds]
theorem setSeg_get:∀(vs:List Value) (o:Nat) (cur:Array Value) (k:Nat),(setSeg cur o vs)[k]? =if(o≤k∧k<o+vs.length)∧k<cur.size then vs[k-o]? else cur[k]?
 |[],o,cur,k=>by unfold setSeg;rw [if_neg (by simp;omega)]
 |v::r,o,cur,k=>by
  unfold setSeg
  rw [setSeg_get r (o+1) _ k,Array.size_setIfInBounds,Array.getElem?_setIfInBounds]
  by_cases h1:o+1≤k∧k<o+1+r.length
  ·by_cases h2:k<cur.size
   ·rw [if_pos ⟨h1,h2⟩,if_pos ⟨⟨by omega,by simp;omega⟩,h2⟩,show k-o=(k-(o+1))+1 by omega,List.getElem?_cons_succ]
   ·rw [if_neg (fun h=>h2 h.2),if_neg (show¬((o≤k∧k<o+(v::r).length)∧k<cur.size)from fun h=>h2 h.2),if_neg (show¬o=k by omega)]
  ·rw [if_neg (fun h=>h1 h.1)]
   by_cases h3:o=k
   ·subst h3
    rw [if_pos rfl]
    by_cases h2:o<cur.size
    ·rw [if_pos h2,if_pos ⟨⟨Nat.le_refl _,by simp⟩,h2⟩,Nat.sub_self];rfl
    ·rw [if_neg h2,if_neg (fun h=>h2 h.2),Array.getElem?_eq_none om]
   ·rw [if_neg h3,if_neg (show¬((o≤k∧k<o+(v::r).length)∧k<cur.size)from fun h=>h1 ⟨by omega,by have:=h.1.2;simp at this;omega⟩)]
theorem put_setCellsL(g:Nat):∀(vs:List Value) (o:Nat) (w:World),Put g w (w.setCells g o vs)
 |[],_,_=>Put.refl _ _
 |v::r,o,w=>(zN w g o v).trans (put_setCellsL g r (o+1) _)
theorem heap_setCellsO(g:Nat)(e:TypeId):∀(vs:List Value) (o:Nat) (w:World) (cur:Array Value),w.heap[g]? =some (.cells cur e (0,0))→(w.setCells g o vs).heap[g]? =some (.cells (setSeg cur o vs) e (0,0))
 |[],_,_,_,h=>h
 |v::r,o,w,cur,h=>by
  unfold World.setCells setSeg
  refine heap_setCellsO g e r (o+1) _ _ ?_
  rw [setCell_eq_setRow w g o cur _ (0,0) _ h,setRow_heap w g cur _ _ _ h]
theorem owns_set{w:World}{base n cap g:Nat}{l:List Mv}(h:w.ownsRow base 47 5 (.slice (some ⟨g,0,none⟩) n cap) n (M.cells l))(hn:l.length=n)(i:Nat)(hi:i<n)(m:Mv):
  w.there g (i*5) 5∧(w.setCells g (i*5) (M.cell m)).ownsRow base 47 5 (.slice (some ⟨g,0,none⟩) n cap) n (M.cells (l.set i m)):=by
 rcases h.2 with⟨e,_⟩|⟨g',cap',cur,e,hb,hg,hnc,hcm,hcs,htake⟩
 ·cases e
 ·injection e with e1 e2 e3
  injection e1 with e1
  injection e1 with e1 _ _
  subst e1 e3
  have hsz:n*5≤cap*5:=Nat.mul_le_mul_right 5 hnc
  have hin:i*5+5≤n*5:=by omega
  refine⟨fun j hj=>⟨?_,by simp [World.frozen?,hg]⟩,?_,.inr ⟨g,cap,setSeg cur (i*5) (M.cell m),rfl,hb,heap_setCellsO g _ _ _ _ _ hg,hnc,hcm,by rw [setSeg_size];exact hcs,?_⟩⟩
  ·simp only [World.cell?,hg]
   rw [Array.getElem?_eq_getElem om];rfl
  ·rw [M.cells_len,List.length_set,hn]
  ·apply List.ext_getElem?
   intro k
   rw [List.getElem?_take]
   by_cases hk:k<n*5
   ·rw [if_pos hk,Array.getElem?_toList,setSeg_get,za8,List.getElem?_set,zbt]
    by_cases hki:i*5≤k∧k<i*5+5
    ·rw [if_pos ⟨hki,by omega⟩,if_pos om,if_pos om]
     show _=(M.cell m)[k % 5]?
     congr 1
     omega
    ·rw [if_neg (fun h=>hki h.1),if_neg om,←za8,←htake,List.getElem?_take,if_pos hk,Array.getElem?_toList]
   ·rw [if_neg hk,List.getElem?_eq_none (by rw [M.cells_len,List.length_set];omega)]
theorem cut_reads{w:World}{base n cap g:Nat}{l:List Mv}(h:w.ownsRow base 47 5 (.slice (some ⟨g,0,none⟩) n cap) n (M.cells l))(hn:l.length=n)(i:Nat)(hi:i≤n)(Z:List Value):
  M.Reads (w.setCells g (i*5) Z) (.slice (some ⟨g,0,none⟩) i cap) (l.take i):=by
 rcases h.2 with⟨e,_⟩|⟨g',cap',cur,e,hb,hg,hnc,hcm,hcs,htake⟩
 ·cases e
 ·injection e with e1 e2 e3
  injection e1 with e1
  injection e1 with e1 _ _
  subst e1 e3
  have hlen:(l.take i).length=i:=by rw [List.length_take];omega
  refine⟨some ⟨g,0,none⟩,cap,by rw [hlen],by omega,hcm,(fun e=>by cases e),fun _=>⟨g,0,rfl,?_,fun j u hu=> ?_⟩⟩
  ·have:=(put_setCellsL g Z (i*5) w).size
   rw [this]
   exact(Array.getElem?_eq_some_iff.1 hg).1
  ·have hj:j<i*5:=by
    have:=(List.getElem?_eq_some_iff.1 hu).1
    rw [M.cells_len,hlen]at this
    exact this
   have hc:(M.cells l)[j]? =some u:=by
    rw [←hu,za8,za8,List.getElem?_take,if_pos om]
   rw [Nat.zero_add]
   have he:=setSeg_get Z (i*5) cur j
   rw [if_neg (show¬((i*5≤j∧j<i*5+Z.length)∧j<cur.size) by omega),←Array.getElem?_toList]at he
   simp only [World.cell?,heap_setCellsO g _ Z (i*5) w cur hg]
   rw [←Array.getElem?_toList]at he⊢
   rw [←htake,List.getElem?_take]at hc
   split at hc
   ·exact he.trans hc
   ·cases hc
theorem take_set(l:List Mv)(i:Nat)(m:Mv)(hi:i<l.length):(l.set i m).take (i+1)=l.take i++[m]:=by
 apply List.ext_getElem?
 intro k
 rw [List.getElem?_take]
 by_cases h:k<i
 ·rw [if_pos om,List.getElem?_set,if_neg om,List.getElem?_append_left (by rw [List.length_take];omega),List.getElem?_take,if_pos h]
 ·by_cases h2:k=i
  ·subst h2
   rw [if_pos om,List.getElem?_set,if_pos rfl,if_pos hi,List.getElem?_append_right (by rw [List.length_take];omega),List.length_take,show k-min k l.length=0 by omega]
   rfl
  ·rw [if_neg om,List.getElem?_eq_none (by simp;omega)]
theorem drop_set(l:List Mv)(i j:Nat)(m:Mv)(hi:i<j):(l.set i m).drop j=l.drop j:=by
 apply List.ext_getElem?
 intro k
 rw [List.getElem?_drop,List.getElem?_drop,List.getElem?_set,if_neg om]
theorem kept_yes{l:List Mv}{g:Mv→Bool}{j:Nat}{m:Mv}(h:l[j]? =some m)(hg:g m=false):(l.take (j+1)).filter (fun x=> !g x)=(l.take j).filter (fun x=> !g x)++[m]:=by
 rw [List.take_add_one,h,List.filter_append];simp [hg]
theorem kept_no{l:List Mv}{g:Mv→Bool}{j:Nat}{m:Mv}(h:l[j]? =some m)(hg:g m=true):(l.take (j+1)).filter (fun x=> !g x)=(l.take j).filter (fun x=> !g x):=by
 rw [List.take_add_one,h,List.filter_append];simp [hg]
theorem kept_first{l:List Mv}{g:Mv→Bool}{i:Nat}(h:∀j x,j<i→l[j]? =some x→g x=false):(l.take i).filter (fun x=> !g x)=l.take i:=by
 rw [List.filter_eq_self]
 intro x hx
 obtain⟨j,hj⟩:=List.mem_iff_getElem?.1 hx
 rw [List.getElem?_take]at hj
 split at hj
 ·rename_i h2
  simp [h j x h2 hj]
 ·cases hj
theorem own_at{w:World}{base n cap g:Nat}{l:List Mv}(h:w.ownsRow base 47 5 (.slice (some ⟨g,0,none⟩) n cap) n (M.cells l)){j:Nat}{m:Mv}(hm:l[j]? =some m):M.At w g (j*5) m:=by
 obtain⟨ao,c,e,_,_,h4⟩:=M.row_open h
 have hn:0<n:=by
  have h1:=(List.getElem?_eq_some_iff.1 hm).1
  have h2:=h.1
  rw [M.cells_len]at h2
  omega
 obtain⟨b,e2,_,_,hc⟩:=h4 hn
 injection e with e1 _ _
 rw [e2]at e1
 injection e1 with e1
 injection e1 with e1 _ _
 subst e1
 exact M.at_of hc j m hm
theorem own_cell{w:World}{base n cap g:Nat}{xs:List Value}(h:w.ownsRow base 47 5 (.slice (some ⟨g,0,none⟩) n cap) n xs)(i:Nat)(hi:i<n*5):(w.cell? ⟨g,i,none⟩).isSome=true:=by
 rcases h.2 with⟨e,_⟩|⟨g',cap',cur,e,hb,hg,hnc,hcm,hcs,htake⟩
 ·cases e
 ·injection e with e1 e2 e3
  injection e1 with e1
  injection e1 with e1 _ _
  subst e1 e3
  have:=Nat.mul_le_mul_right 5 hnc
  simp only [World.cell?,hg]
  rw [Array.getElem?_eq_getElem om]
  rfl
theorem own_frozen{w:World}{base n cap g:Nat}{xs:List Value}(h:w.ownsRow base 47 5 (.slice (some ⟨g,0,none⟩) n cap) n xs)(i:Nat):w.frozen? ⟨g,i,none⟩=false:=by
 rcases h.2 with⟨e,_⟩|⟨g',cap',cur,e,hb,hg,_⟩
 ·cases e
 ·injection e with e1 e2 e3
  injection e1 with e1
  injection e1 with e1 _ _
  subst e1
  simp [World.frozen?,hg]
end Lg
section
variable {ops:Array Oper} {rest:List Oper} {o:Oper} {a:Act} {w:World} {Q:Exit→Act→World→Prop} {K:Act→World→Prop}
theorem zdv(x y:Operand)(ho:o.op= .store 47 x y){base n cap g:Nat}{l:List Mv}(i:Nat)(m:Mv)
  (hx:a.eval x= .pointer (some ⟨g,i*5,none⟩)) (hy:a.eval y= .agg #[.int .i8 m.1,.int .i8 m.2.1,.int .u8 m.2.2.1,.int .u8 m.2.2.2.1,.bool m.2.2.2.2]) (hn:l.length=n) (hi:i<n)
  (hown:w.ownsRow base 47 5 (.slice (some ⟨g,0,none⟩) n cap) n (M.cells l))
  (h:∀W':World,Put g w W'→W'.ownsRow base 47 5 (.slice (some ⟨g,0,none⟩) n cap) n (M.cells (l.set i m))→K (a.put o.dst undef) W'):o.wp prog a w K Q:=by
 obtain⟨h1,h2⟩:=Lg.owns_set hown hn i hi m
 exact wp_store_mid 47 x y ho g (i*5) (M.cell m).toArray hx hy h1 (Lg.size_mv _ rfl) (by simp [M.cell,Value.oneCell']) (h _ (Lg.put_setCellsL g _ _ _) h2)
theorem zcR(hgd:o.guard=none)(x y:Operand)(ho:o.op= .store 47 x y){base n cap g:Nat}{l:List Mv}(i:Nat)(m:Mv)
  (hx:a.eval x= .pointer (some ⟨g,i*5,none⟩)) (hy:a.eval y= .agg #[.int .i8 m.1,.int .i8 m.2.1,.int .u8 m.2.2.1,.int .u8 m.2.2.2.1,.bool m.2.2.2.2]) (hn:l.length=n) (hi:i<n)
  (hown:w.ownsRow base 47 5 (.slice (some ⟨g,0,none⟩) n cap) n (M.cells l))
  (h:∀W':World,Put g w W'→W'.ownsRow base 47 5 (.slice (some ⟨g,0,none⟩) n cap) n (M.cells (l.set i m))→wpList prog ops Q rest (a.put o.dst undef) W'):wpList prog ops Q (o::rest) a w:=
 wpList_plain hgd fun _ hK=>zdv x y ho i m hx hy hn hi hown (fun W' hp hw=>hK _ _ (h W' hp hw))
end
theorem Lg.run_clear(w:World)(ty:TypeId)(b o n c:Nat)(hn:0<n)(hc:∀j,j<n*5→(w.cell? ⟨b,o+j,none⟩).isSome=true)(hf:∀j,j<n*5→w.frozen? ⟨b,o+j,none⟩=false):
  (Builtin.clear_ #[39] ty #[.slice (some ⟨b,o,none⟩) n c]).run prog w= .ok (.tuple #[]) (w.setCells b o (Builtin.zeroCells #[.int .i8 0,.int .i8 0,.int .u8 0,.int .u8 0,.bool false] n).toList):=by
 have hlen:(Builtin.zeroCells #[.int .i8 0,.int .i8 0,.int .u8 0,.int .u8 0,.bool false] n).toList.length=n*5:=by simp [Builtin.zeroCells]
 have hst:=run_storeCells_cells (P:=prog) b o (Builtin.zeroCells #[.int .i8 0,.int .i8 0,.int .u8 0,.int .u8 0,.bool false] n).toList 0 w (by rw [hlen];simpa using hc) (by rw [hlen];simpa using hf) (by
  intro v hv
  simp [Builtin.zeroCells]at hv
  obtain⟨k,_,rfl⟩:=hv
  rcases(show k % 5=0∨k % 5=1∨k % 5=2∨k % 5=3∨k % 5=4 by omega)with h|h|h|h|h<;>simp [h,Value.oneCell'])
 simp only [Nat.add_zero]at hst
 obtain⟨m,rfl⟩:∃m,n=m+1:=⟨n-1,by omega⟩
 have hz:(Value.agg #[.int .i8 0,.int .i8 0,.int .u8 0,.int .u8 0,.bool false]).cells= #[.int .i8 0,.int .i8 0,.int .u8 0,.int .u8 0,.bool false]:=rfl
 simp [Builtin.clear_,run_underlying underlying39,hz,hst]
theorem zhs(f b base:Nat)(eg:∀args w,(callFunc f args).run prog w= .ok (.enter f args) w)(l:List Mv)(v:Value)(g:Mv→Bool)(w0 w:World)(hown:w.ownsRow base 47 5 v l.length (M.cells l))(hb:Below base w0 w)(hbs:base≤w.heap.size)(hN:l.length≤100000)(hP:Lg.Pred f b l g base w0):
  Calls prog 94 #[v,.func (.func f) #[] #[.pointer (some ⟨b,0,none⟩)]] w fun e w'=>∃v',e= .returned v'∧M.Reads w' v' (l.filter fun x=> !g x)∧Below base w0 w':=by
 have HI:=hid (zcw f b eg l v g w (M.reads_own hown) hN (fun W hW m hm=>hP W (hb.trans (hW.mono hbs)) m hm))
 obtain⟨ao,cap,rfl,hnc,hcm,hao⟩:=M.row_open hown
 have HR:=hid (M.reads_own hown)
 have HP:=hid hP
 have HO:=hid hown
 have HB:=hid hb
 have HA:=hid (fun h=>(fun⟨b,e,_,_,_⟩=>⟨b,e⟩:_→∃b:Nat,ao=some ⟨b,0,none⟩) (hao h))
 clear hP hown hb hao
 obtain⟨n,hn⟩:∃n,l.length=n:=⟨_,rfl⟩
 rw [hn]at HI HR HO HA hnc hN⊢
 have Hn:=hid hn
 clear hn
 go_enter func94,ntmps94
 go_upto_region 2 with(go_at_call 186;refine HI.mono ?_;rintro e w2 ⟨r,rfl,hf,hb2⟩)
 rcases hf with⟨i,rfl,⟨m,hm,hg⟩,hbef⟩|⟨rfl,hall⟩
 ·have hi:i<n:=Hn.out▸(List.getElem?_eq_some_iff.1 hm).1
  obtain⟨bb,rfl⟩:=HA om
  have HB2:=hid (HB.trans (hb2.mono hbs))
  have HO2:=hid (zq HO hb2)
  have HS2:=hid (Nat.le_trans hbs hb2.size)
  have HK:=hid ((Lg.kept_first hbef).symm.trans (Lg.kept_no hm hg).symm)
  have hne:((i:Int)== -1)=false:=by rw [beq_eq_false_iff_ne];omega
  clear hbef hg hm hb2 HI HR HO HB hbs HA
  go_wp2
  go_loopw [5,6] (fun vk vj wr=>∃(k j:Nat) (L:List Mv),k<j∧j≤n∧vk= .int .i64 (k:Int)∧vj= .int .i64 (j:Int)∧Hid (L.length=n∧L.take k=(l.take j).filter (fun x=> !g x)∧L.drop j=l.drop j)∧Hid (wr.ownsRow base 47 5 (.slice (some ⟨bb,0,none⟩) n cap) n (M.cells L))∧Hid (Below base w0 wr∧base≤wr.heap.size)) (fun _ vj _=>n-(intOf vj).toNat)
  case atStart=>exact⟨i,i+1,l,by omega,by omega,rfl,by go_num,hid ⟨Hn,HK,rfl⟩,HO2,hid ⟨HB2,HS2⟩⟩
  case round=>
   obtain⟨k,j,L,hkj,hj,rfl,rfl,HL,HO,HB⟩:=hrel
   clear HB2 HO2 HS2 HK hne
   by_cases hlt:j<n
   ·obtain⟨⟨f',t',p',d',c'⟩,hx⟩:∃x,l[j]? =some x:=⟨_,List.getElem?_eq_getElem (by rw [Hn.out];exact hlt)⟩
    have hxL:L[j]? =some (f',t',p',d',c'):=by
     have:=congrArg (fun r=>r[0]?) HL.2.2
     rw [List.getElem?_drop,List.getElem?_drop,Nat.add_zero]at this
     exact this.trans hx
    have hat:=Lg.own_at HO hxL
    have HX:=hid hx
    have HE:=hid (List.mem_of_getElem? hx)
    have hoz:wr.heap.size≠bb:=fun e=>by have:=(HO.lt bb rfl).2;omega
    have hbw:=hid HB.2
    clear hx hxL
    go_upto_region 8 with(first
     |(refine wpList_load_mid rfl 47 _ rfl bb (j*5) rfl (M.cell (f',t',p',d',c')) _ hat underlying47 rfl (Lg.size_mv _ rfl) ?_)
     |((with_reducible refine zb rfl 47 _ _ rfl ?_);refine⟨wr.heap.size,47,(M.cell (f',t',p',d',c')).toArray,rfl,rfl,⟨_,heap_alloc_new _ _,rfl⟩,Lg.size_mv _ rfl,(by simp [M.cell,Value.oneCell']),?_⟩;intro W7 hP7 hr7))
    have HO7:=hid (hP7.owns (zq HO bA) (fun e=>hoz (by cases e;rfl)))
    have HB7:=hid (hP7.below (HB.1.alloc HB.2 _) HB.2)
    have HS7:=hid (show base≤W7.heap.size by have:=hP7.size;rw [World.size_alloc]at this;have:=hbw.out;omega)
    clear hP7 hat hoz
    cases hg:g (f',t',p',d',c')
    ·have HG:=hid hg
     clear hg
     go_wp2_with (first
      |((with_reducible refine zj rfl 47 _ rfl underlying47 rfl ?_);refine⟨wr.heap.size,47,(M.cell (f',t',p',d',c')).toArray,rfl,asm,Lg.size_mv _ rfl,?_⟩)
      |(go_at_fn f;refine(HG.out▸HP W7 HB7 _ HE).mono ?_;rintro e w8 ⟨rfl,hb8⟩;replace hr7:=hr7.below hb8;have HO8:=hid (zq HO7 hb8);have HB8:=hid (HB7.trans (hb8.mono HS7));have HS8:=hid (Nat.le_trans HS7 hb8.size);clear hb8)
      |(refine zcR rfl _ _ rfl k (f',t',p',d',c') rfl rfl HL.1 om HO8 ?_;intro W9 hP9 hO9;have HO9:=hid hO9;have HP9:=hid hP9;clear hP9 hO9))
     refine⟨⟨k+1,j+1,L.set k (f',t',p',d',c'),by omega,by omega,by go_num,by go_num,hid ⟨by rw [List.length_set];exact HL.1,?_,?_⟩,HO9,hid ⟨HP9.below HB8 (HO8.lt bb rfl).1,by rw [HP9.out.size];exact HS8.out⟩⟩,by simp [intOf];omega⟩
     ·rw [Lg.take_set _ _ _ (by rw [HL.out.1];omega),HL.out.2.1,Lg.kept_yes HX.out HG.out]
     ·rw [Lg.drop_set _ _ _ _ om,←List.drop_drop,HL.out.2.2,List.drop_drop]
    ·have HG:=hid hg
     clear hg
     go_wp2_with (first
      |((with_reducible refine zj rfl 47 _ rfl underlying47 rfl ?_);refine⟨wr.heap.size,47,(M.cell (f',t',p',d',c')).toArray,rfl,asm,Lg.size_mv _ rfl,?_⟩)
      |(go_at_fn f;refine(HG.out▸HP W7 HB7 _ HE).mono ?_;rintro e w8 ⟨rfl,hb8⟩;replace hr7:=hr7.below hb8;have HO8:=hid (zq HO7 hb8);have HB8:=hid (HB7.trans (hb8.mono HS7));have HS8:=hid (Nat.le_trans HS7 hb8.size);clear hb8))
     refine⟨⟨k,j+1,L,by omega,by omega,rfl,by go_num,hid ⟨HL.1,?_,?_⟩,HO8,hid ⟨HB8,HS8⟩⟩,by simp [intOf];omega⟩
     ·rw [HL.out.2.1,Lg.kept_no HX.out HG.out]
     ·rw [←List.drop_drop,HL.out.2.2,List.drop_drop]
   ·obtain rfl:j=n:=by omega
    have hcl:=Lg.run_clear wr 0 bb (k*5) (j-k) (cap-k) om (fun q hq=>Lg.own_cell HO _ om) (fun q hq=>Lg.own_frozen HO _)
    obtain⟨Z,hZ⟩:∃Z,(Builtin.zeroCells #[.int .i8 0,.int .i8 0,.int .u8 0,.int .u8 0,.bool false] (j-k)).toList=Z:=⟨_,rfl⟩
    rw [hZ]at hcl
    have hkn:(k:Int)≤(j:Int):=by omega
    have hnc':(j:Int)≤(cap:Int):=by omega
    have HE:=hid (show L.take k=l.filter (fun x=> !g x)from HL.2.1.trans (by rw [List.take_of_length_le (by rw [Hn.out];omega)]))
    clear hZ
    go_wp2
    go_ret
    exact⟨_,rfl,by rw [←HE.out];exact Lg.cut_reads HO HL.1 k om Z,(Lg.put_setCellsL bb Z (k*5) wr).below HB.1 (HO.lt bb rfl).1⟩
 ·have HE:=hid (show l.filter (fun x=> !g x)=l from List.filter_eq_self.2 fun x hx=>by simp [hall x hx])
  clear hall
  go_wp2
  go_ret
  exact⟨_,rfl,by rw [HE.out];exact HR.below hb2,HB.trans (hb2.mono hbs)⟩
section
variable {P:Program} {ops:Array Oper} {Q:Exit→Act→World→Prop} {a:Act} {w:World} {K:Act→World→Prop}
theorem zaf(i:Nat)(d:Option Tmp)(f:FuncId)(args:Array Value)(v:Value)(R:World→Prop)(ho:Nat.blt i ops.size=true)(hw:Region.wanted (ops.getD i default) (yielded ops a.tmps)=true)
  (hd:(ops.getD i default).dst=d) (he:(execOp a.eval (ops.getD i default)).run P w= .ok (.enter f args) w)
  (hc:Calls P f args w fun e w'=>e= .returned v∧R w') (h:∀w',R w'→K (a.put d v) w'):wpOp P ops Q i K a w:=by
 unfold wpOp
 rw [getD_some ho]
 simp only [hw,if_true]
 left
 unfold Oper.wp
 rw [he]
 show Calls P f args w _
 refine hc.mono ?_
 rintro e w' ⟨rfl,hR⟩
 rw [hd]
 exact h w' hR
theorem zz(i:Nat)(d:Option Tmp)(v:Value)(w':World)(ho:Nat.blt i ops.size=true)(hw:Region.wanted (ops.getD i default) (yielded ops a.tmps)=true)
  (hd:(ops.getD i default).dst=d) (he:(execOp a.eval (ops.getD i default)).run P w= .ok (.value v) w') (h:K (a.put d v) w'):wpOp P ops Q i K a w:=by
 unfold wpOp
 rw [getD_some ho]
 simp only [hw,if_true]
 left
 unfold Oper.wp
 rw [he]
 show K (a.put (ops.getD i default).dst v) w'
 rw [hd]
 exact h
theorem zhE(i:Nat)(ho:Nat.blt i ops.size=true)(hw:Region.wanted (ops.getD i default) (yielded ops a.tmps)=true)
  (h:(ops.getD i default).wp P a w K Q):wpOp P ops Q i K a w:=by
 unfold wpOp
 rw [getD_some ho]
 simp only [hw,if_true]
 exact .inl h
end
end
end Go.Proofs.YtbakeajgolhkgaaGreatDoor
