import Derived.Deep.Onto
import Derived.Test.YtbakeajgolhkgaaGreatDoorYal
set_option maxRecDepth 100000
set_option maxHeartbeats 8000000
open Go.Lib (hid)
namespace Go.Proofs.YtbakeajgolhkgaaGreatDoor
open Go.Proofs.Tryz
open Go.RowKit Go.Sort
namespace T
def movL(x:Nat×Nat):List Value:=[.int .i8 (x.1:Int),.int .i8 (x.2:Int),.int .u8 0,.int .u8 0,.bool true]
def cells(l:List (Nat×Nat)):List Value:=l.flatMap movL
def outN(c:Nat→Int)(t k:Nat):Nat→List (Nat×Nat)
 |0=>[]
 |n+1=>outN c t k n++(((cand c t (1-n) k).map fun s=>(k,s)).toList)
theorem outN_len(c:Nat→Int)(t k:Nat):∀n,(outN c t k n).length≤n
 |0=>Nat.le_refl _
 |n+1=>by
  have:=outN_len c t k n
  rw [outN,List.length_append]
  cases cand c t (1-n) k<;>simp<;>omega
theorem outN_two(c:Nat→Int)(t k:Nat):outN c t k 2=[1,0].filterMap fun d=>(cand c t d k).map fun s=>(k,s):=by
 unfold outN outN outN
 simp only [List.filterMap_cons,List.filterMap_nil]
 cases cand c t (1-0) k<;>cases cand c t (1-1) k<;>rfl
def End(l:List (Nat×Nat))(w:World)(e:Ending)(w':World):Prop:=∃v,e= .returned v∧w'.ownsRow (w.heap.size+1) 47 5 v l.length (cells l)∧Below w.heap.size w w'
theorem cells_snoc(l:List (Nat×Nat))(x:Nat×Nat):cells (l++[x])=cells l++movL x:=by simp [cells]
end T
theorem info_Move:(prog.info? 47).map (fun i=>(i.zero,i.size,i.bytes))=some (some (.agg #[.int .i8 0,.int .i8 0,.int .u8 0,.int .u8 0,.bool false]),5,5):=by kernel_rfl
theorem zcW{W:World}{g:Nat}{T:TypeId}{l:List Value}(h:RowAt W g T l.toArray):∀(j:Nat) (u:Value),l[j]? =some u→W.cell? ((⟨g,0,none⟩:Addr).add j)=some u:=by
 intro j u hu
 have:((⟨g,0,none⟩:Addr).add j)=⟨g,j,none⟩:=by unfold Addr.add;split<;>simp_all
 rw [this,h.cell]
 simpa using hu
theorem ziW(c:Nat→Int)(k:Nat)(w:World)(hc:PosOk c)(hT:Tb w)(hct:c 78=0)(hv:T.castles (c 0)=true)(hf:S.find c 0 6=(k:Int))(hk:k<64)(hkt:k/8=0):
  Calls prog 119 #[.agg (posC c)] w (T.End (T.outN c 0 k 2) w):=by
 have hb0:Below w.heap.size w (w.alloc (.cells (posC c) 31)):=bA
 have hp:=PosAt.new w c
 obtain⟨v0,v1⟩:=zp hc (i:=0) dc rfl
 obtain⟨v,hvv⟩:∃v:Nat,c 0=(v:Int):=⟨(c 0).toNat,by omega⟩
 have h0:=hp.cell (i:=0) dc
 have h78:=hp.cell (i:=78) dc
 rw [hct,show pk 78= .u8 from rfl]at h78
 rw [hvv,show pk 0= .u8 from rfl]at h0
 rw [hvv]at hv
 have HV:=hid (fun W=>(show Calls prog 170 #[.int .u8 (v:Int)] W fun e w'=>e= .returned (.bool true)∧Below W.heap.size W w' by rw [←hv];exact zbd v W))
 have HT:=hid (fun W (hb:Below w.heap.size w W)=>zi hT hb)
 have HF:=hid (fun W (hT:Tb W)=>(show Calls prog 132 #[.agg (posC c),.int .u8 0,.int .u8 6] W fun e w'=>e= .returned (.int .i64 (k:Int))∧Below W.heap.size W w' by rw [←hf];exact zW c _ _ _ (zw hc) hT))
 have hkd:(k:Int).tdiv 8=0:=by rw [Int.tdiv_eq_ediv_of_nonneg om];omega
 have HM:=hid (fun(d:Nat) (hd:d<2) W (hT:Tb W)=>zeU c 0 d k W hc dc hd hk hct hT)
 have hk0:¬((k:Int)<0):=by omega
 clear hv hf hT hvv v0 v1
 go_enter func119,ntmps119
 go_wp2_with (first
  |((with_reducible refine ze rfl _ rfl ?_);refine⟨_,_,rfl,(by first|assumption|exact hp.alloc _),?_⟩)
  |(go_at_call 170;refine(HV _).mono ?_;rintro e u ⟨rfl,hb⟩;replace hp:=hp.below hb;replace hb0:=za hb0 hb;clear hb;have h78:=hp.cell (i:=78) dc;rw [hct,show pk 78= .u8 from rfl]at h78)
  |(go_at_call 132;refine(HF _ (HT _ hb0)).mono ?_;rintro e u ⟨rfl,hb⟩;replace hp:=hp.below hb;replace hb0:=za hb0 hb;clear hb;have h78:=hp.cell (i:=78) dc;rw [hct,show pk 78= .u8 from rfl]at h78)
  |(go_at_call 194;refine(zA 0 _ dc).mono ?_;rintro e u ⟨rfl,rfl⟩))
 have hz0:=hb0.size
 have hBw:=hp.lt
 have hS:=RowAt.new u #[.int .i64 1,.int .i64 0] 3
 replace hp:=hp.alloc (.cells #[.int .i64 1,.int .i64 0] 3)
 replace hb0:=hb0.alloc hb0.size (.cells #[.int .i64 1,.int .i64 0] 3)
 have H0:=hid (And.intro hS (And.intro hp hb0))
 obtain⟨B,hB⟩:∃B,u.heap.size=B:=⟨_,rfl⟩
 rw [hB]at H0 hBw⊢
 obtain⟨i0,hi,hz0,hz1,hz2⟩:=info_parts info_Move
 clear hS hp hb0 h78 h0
 go_loopw [4,35] (fun x i wr=>∃n:Nat,n≤2∧i= .int .i64 (n:Int)∧wr.ownsRow (B+1) 47 5 x (T.outN c 0 k n).length (T.cells (T.outN c 0 k n))∧RowAt wr B 3 #[.int .i64 1,.int .i64 0]∧PosAt wr w.heap.size c∧Below w.heap.size w wr) (fun _ i _=>2-(intOf i).toNat)
 case atStart=>exact⟨0,by omega,rfl,World.ownsRow_nil _ _ _ _,H0.1,H0.2.1,H0.2.2⟩
 case round=>
  obtain⟨n,hn,rfl,hown,hS,hp,hbr⟩:=hrel
  have h78:=hp.cell (i:=78) dc
  rw [hct,show pk 78= .u8 from rfl]at h78
  rcases(show n=0∨n=1∨n=2 by omega)with rfl|rfl|rfl
  ·have s0:=hS.cell 0
   simp only [List.getElem?_toArray,List.getElem?_cons_zero]at s0
   have hne:B≠w.heap.size:=by omega
   have hlen:=T.outN_len c 0 k 0
   go_wp2_with (first
    |((with_reducible refine ze rfl _ rfl ?_);refine⟨_,_,rfl,(by first|assumption|exact hp.alloc _),?_⟩))
   refine(HM 1 dc _ (HT _ hbr)).mono ?_
   rintro e u1 ⟨he,hb⟩
   have hgs:=hbr.size
   replace hp:=hp.below hb
   replace hS:=hS.below hb
   replace hown:=zq hown hb
   have hbs:=hb.size
   replace hbr:=za hbr hb
   clear hb
   rcases he with⟨hcand,a,b,x,rfl⟩|⟨s,hcand,hs,rfl⟩
   ·have hst:T.outN c 0 k (0+1)=T.outN c 0 k 0:=by show T.outN c 0 k 0++((T.cand c 0 1 k).map fun s=>(k,s)).toList=_;rw [hcand];simp
    go_wp2
    exact⟨⟨0+1,by omega,by go_num,by rw [hst];exact hown.alloc _,hS.alloc _,hp.alloc _,hbr.alloc hbr.size _⟩,by simp [intOf]⟩
   ·have hst:T.outN c 0 k (0+1)=T.outN c 0 k 0++[(k,s)]:=by show T.outN c 0 k 0++((T.cand c 0 1 k).map fun s=>(k,s)).toList=_;rw [hcand];rfl
    have hlB:=hS.lt
    have hN:RowAt ((u1.alloc (.cells #[.int .i8 (k:Int),.int .i8 (s:Int),.int .u8 0,.int .u8 0,.bool true] 47)).alloc (.cells #[.int .i8 (k:Int),.int .i8 (s:Int),.int .u8 0,.int .u8 0,.bool true] 47)) (u1.heap.size+1) 47 (T.movL (k,s)).toArray:=by
     have:=RowAt.new (u1.alloc (.cells #[.int .i8 (k:Int),.int .i8 (s:Int),.int .u8 0,.int .u8 0,.bool true] 47)) #[.int .i8 (k:Int),.int .i8 (s:Int),.int .u8 0,.int .u8 0,.bool true] 47
     rwa [World.size_alloc]at this
    go_wp2_with (first
     |(at_builtin;refine wpList_append_own _ rfl _ _ 39 rfl (B+1) 47 i0 (.agg #[.int .i8 0,.int .i8 0,.int .u8 0,.int .u8 0,.bool false]) 5 5 underlying39 hi hz0 hz1 hz2 rfl dc _ _ _ rfl ((hown.alloc _).alloc _) ⟨_,0,none⟩ 1 1 (T.movL (k,s)) rfl rfl (zcW hN) (by intro q hq;simp [T.movL]at hq;rcases hq with rfl|rfl|rfl|rfl<;>rfl) (by unfold maxLen;omega) om (by simp;omega) ?_;intro v' w1 hown' hgrow _))
    refine⟨⟨0+1,by omega,by go_num,?_,?_,?_,?_⟩,by simp [intOf]⟩
    ·rw [hst,T.cells_snoc,List.length_append];exact hown'
    ·exact((hS.alloc _).alloc _).grown hgrow (fun q hq=>by have:=(hown.lt q hq).1;omega)
    ·exact((hp.alloc _).alloc _).grown hgrow (fun q hq=>by have:=(hown.lt q hq).1;omega)
    ·exact((hbr.alloc hbr.size _).alloc (by simp;omega) _).grown hgrow (by simp;omega) (fun q hq=>by have:=(hown.lt q hq).1;omega)
  ·have s0:=hS.cell 1
   simp only [List.getElem?_toArray,List.getElem?_cons_zero,List.getElem?_cons_succ]at s0
   have hne:B≠w.heap.size:=by omega
   have hlen:=T.outN_len c 0 k 1
   go_wp2_with (first
    |((with_reducible refine ze rfl _ rfl ?_);refine⟨_,_,rfl,(by first|assumption|exact hp.alloc _),?_⟩))
   refine(HM 0 dc _ (HT _ hbr)).mono ?_
   rintro e u1 ⟨he,hb⟩
   have hgs:=hbr.size
   replace hp:=hp.below hb
   replace hS:=hS.below hb
   replace hown:=zq hown hb
   have hbs:=hb.size
   replace hbr:=za hbr hb
   clear hb
   rcases he with⟨hcand,a,b,x,rfl⟩|⟨s,hcand,hs,rfl⟩
   ·have hst:T.outN c 0 k (1+1)=T.outN c 0 k 1:=by show T.outN c 0 k 1++((T.cand c 0 0 k).map fun s=>(k,s)).toList=_;rw [hcand];simp
    go_wp2
    exact⟨⟨1+1,by omega,by go_num,by rw [hst];exact hown.alloc _,hS.alloc _,hp.alloc _,hbr.alloc hbr.size _⟩,by simp [intOf]⟩
   ·have hst:T.outN c 0 k (1+1)=T.outN c 0 k 1++[(k,s)]:=by show T.outN c 0 k 1++((T.cand c 0 0 k).map fun s=>(k,s)).toList=_;rw [hcand];rfl
    have hlB:=hS.lt
    have hN:RowAt ((u1.alloc (.cells #[.int .i8 (k:Int),.int .i8 (s:Int),.int .u8 0,.int .u8 0,.bool true] 47)).alloc (.cells #[.int .i8 (k:Int),.int .i8 (s:Int),.int .u8 0,.int .u8 0,.bool true] 47)) (u1.heap.size+1) 47 (T.movL (k,s)).toArray:=by
     have:=RowAt.new (u1.alloc (.cells #[.int .i8 (k:Int),.int .i8 (s:Int),.int .u8 0,.int .u8 0,.bool true] 47)) #[.int .i8 (k:Int),.int .i8 (s:Int),.int .u8 0,.int .u8 0,.bool true] 47
     rwa [World.size_alloc]at this
    go_wp2_with (first
     |(at_builtin;refine wpList_append_own _ rfl _ _ 39 rfl (B+1) 47 i0 (.agg #[.int .i8 0,.int .i8 0,.int .u8 0,.int .u8 0,.bool false]) 5 5 underlying39 hi hz0 hz1 hz2 rfl dc _ _ _ rfl ((hown.alloc _).alloc _) ⟨_,0,none⟩ 1 1 (T.movL (k,s)) rfl rfl (zcW hN) (by intro q hq;simp [T.movL]at hq;rcases hq with rfl|rfl|rfl|rfl<;>rfl) (by unfold maxLen;omega) om (by simp;omega) ?_;intro v' w1 hown' hgrow _))
    refine⟨⟨1+1,by omega,by go_num,?_,?_,?_,?_⟩,by simp [intOf]⟩
    ·rw [hst,T.cells_snoc,List.length_append];exact hown'
    ·exact((hS.alloc _).alloc _).grown hgrow (fun q hq=>by have:=(hown.lt q hq).1;omega)
    ·exact((hp.alloc _).alloc _).grown hgrow (fun q hq=>by have:=(hown.lt q hq).1;omega)
    ·exact((hbr.alloc hbr.size _).alloc (by simp;omega) _).grown hgrow (by simp;omega) (fun q hq=>by have:=(hown.lt q hq).1;omega)
  ·go_wp2
   go_ret
   exact⟨_,rfl,hown.mono om,hbr⟩
theorem zio(c:Nat→Int)(k:Nat)(w:World)(hc:PosOk c)(hT:Tb w)(hct:c 78=1)(hv:T.castles (c 0)=true)(hf:S.find c 1 6=(k:Int))(hk:k<64)(hkt:k/8=7):
  Calls prog 119 #[.agg (posC c)] w (T.End (T.outN c 1 k 2) w):=by
 have hb0:Below w.heap.size w (w.alloc (.cells (posC c) 31)):=bA
 have hp:=PosAt.new w c
 obtain⟨v0,v1⟩:=zp hc (i:=0) dc rfl
 obtain⟨v,hvv⟩:∃v:Nat,c 0=(v:Int):=⟨(c 0).toNat,by omega⟩
 have h0:=hp.cell (i:=0) dc
 have h78:=hp.cell (i:=78) dc
 rw [hct,show pk 78= .u8 from rfl]at h78
 rw [hvv,show pk 0= .u8 from rfl]at h0
 rw [hvv]at hv
 have HV:=hid (fun W=>(show Calls prog 170 #[.int .u8 (v:Int)] W fun e w'=>e= .returned (.bool true)∧Below W.heap.size W w' by rw [←hv];exact zbd v W))
 have HT:=hid (fun W (hb:Below w.heap.size w W)=>zi hT hb)
 have HF:=hid (fun W (hT:Tb W)=>(show Calls prog 132 #[.agg (posC c),.int .u8 1,.int .u8 6] W fun e w'=>e= .returned (.int .i64 (k:Int))∧Below W.heap.size W w' by rw [←hf];exact zW c _ _ _ (zw hc) hT))
 have hkd:(k:Int).tdiv 8=7:=by rw [Int.tdiv_eq_ediv_of_nonneg om];omega
 have HM:=hid (fun(d:Nat) (hd:d<2) W (hT:Tb W)=>zeU c 1 d k W hc dc hd hk hct hT)
 have hk0:¬((k:Int)<0):=by omega
 clear hv hf hT hvv v0 v1
 go_enter func119,ntmps119
 go_wp2_with (first
  |((with_reducible refine ze rfl _ rfl ?_);refine⟨_,_,rfl,(by first|assumption|exact hp.alloc _),?_⟩)
  |(go_at_call 170;refine(HV _).mono ?_;rintro e u ⟨rfl,hb⟩;replace hp:=hp.below hb;replace hb0:=za hb0 hb;clear hb;have h78:=hp.cell (i:=78) dc;rw [hct,show pk 78= .u8 from rfl]at h78)
  |(go_at_call 132;refine(HF _ (HT _ hb0)).mono ?_;rintro e u ⟨rfl,hb⟩;replace hp:=hp.below hb;replace hb0:=za hb0 hb;clear hb;have h78:=hp.cell (i:=78) dc;rw [hct,show pk 78= .u8 from rfl]at h78)
  |(go_at_call 194;refine(zA 1 _ dc).mono ?_;rintro e u ⟨rfl,rfl⟩))
 have hz0:=hb0.size
 have hBw:=hp.lt
 have hS:=RowAt.new u #[.int .i64 1,.int .i64 0] 3
 replace hp:=hp.alloc (.cells #[.int .i64 1,.int .i64 0] 3)
 replace hb0:=hb0.alloc hb0.size (.cells #[.int .i64 1,.int .i64 0] 3)
 have H0:=hid (And.intro hS (And.intro hp hb0))
 obtain⟨B,hB⟩:∃B,u.heap.size=B:=⟨_,rfl⟩
 rw [hB]at H0 hBw⊢
 obtain⟨i0,hi,hz0,hz1,hz2⟩:=info_parts info_Move
 clear hS hp hb0 h78 h0
 go_loopw [4,35] (fun x i wr=>∃n:Nat,n≤2∧i= .int .i64 (n:Int)∧wr.ownsRow (B+1) 47 5 x (T.outN c 1 k n).length (T.cells (T.outN c 1 k n))∧RowAt wr B 3 #[.int .i64 1,.int .i64 0]∧PosAt wr w.heap.size c∧Below w.heap.size w wr) (fun _ i _=>2-(intOf i).toNat)
 case atStart=>exact⟨0,by omega,rfl,World.ownsRow_nil _ _ _ _,H0.1,H0.2.1,H0.2.2⟩
 case round=>
  obtain⟨n,hn,rfl,hown,hS,hp,hbr⟩:=hrel
  have h78:=hp.cell (i:=78) dc
  rw [hct,show pk 78= .u8 from rfl]at h78
  rcases(show n=0∨n=1∨n=2 by omega)with rfl|rfl|rfl
  ·have s0:=hS.cell 0
   simp only [List.getElem?_toArray,List.getElem?_cons_zero]at s0
   have hne:B≠w.heap.size:=by omega
   have hlen:=T.outN_len c 1 k 0
   go_wp2_with (first
    |((with_reducible refine ze rfl _ rfl ?_);refine⟨_,_,rfl,(by first|assumption|exact hp.alloc _),?_⟩))
   refine(HM 1 dc _ (HT _ hbr)).mono ?_
   rintro e u1 ⟨he,hb⟩
   have hgs:=hbr.size
   replace hp:=hp.below hb
   replace hS:=hS.below hb
   replace hown:=zq hown hb
   have hbs:=hb.size
   replace hbr:=za hbr hb
   clear hb
   rcases he with⟨hcand,a,b,x,rfl⟩|⟨s,hcand,hs,rfl⟩
   ·have hst:T.outN c 1 k (0+1)=T.outN c 1 k 0:=by show T.outN c 1 k 0++((T.cand c 1 1 k).map fun s=>(k,s)).toList=_;rw [hcand];simp
    go_wp2
    exact⟨⟨0+1,by omega,by go_num,by rw [hst];exact hown.alloc _,hS.alloc _,hp.alloc _,hbr.alloc hbr.size _⟩,by simp [intOf]⟩
   ·have hst:T.outN c 1 k (0+1)=T.outN c 1 k 0++[(k,s)]:=by show T.outN c 1 k 0++((T.cand c 1 1 k).map fun s=>(k,s)).toList=_;rw [hcand];rfl
    have hlB:=hS.lt
    have hN:RowAt ((u1.alloc (.cells #[.int .i8 (k:Int),.int .i8 (s:Int),.int .u8 0,.int .u8 0,.bool true] 47)).alloc (.cells #[.int .i8 (k:Int),.int .i8 (s:Int),.int .u8 0,.int .u8 0,.bool true] 47)) (u1.heap.size+1) 47 (T.movL (k,s)).toArray:=by
     have:=RowAt.new (u1.alloc (.cells #[.int .i8 (k:Int),.int .i8 (s:Int),.int .u8 0,.int .u8 0,.bool true] 47)) #[.int .i8 (k:Int),.int .i8 (s:Int),.int .u8 0,.int .u8 0,.bool true] 47
     rwa [World.size_alloc]at this
    go_wp2_with (first
     |(at_builtin;refine wpList_append_own _ rfl _ _ 39 rfl (B+1) 47 i0 (.agg #[.int .i8 0,.int .i8 0,.int .u8 0,.int .u8 0,.bool false]) 5 5 underlying39 hi hz0 hz1 hz2 rfl dc _ _ _ rfl ((hown.alloc _).alloc _) ⟨_,0,none⟩ 1 1 (T.movL (k,s)) rfl rfl (zcW hN) (by intro q hq;simp [T.movL]at hq;rcases hq with rfl|rfl|rfl|rfl<;>rfl) (by unfold maxLen;omega) om (by simp;omega) ?_;intro v' w1 hown' hgrow _))
    refine⟨⟨0+1,by omega,by go_num,?_,?_,?_,?_⟩,by simp [intOf]⟩
    ·rw [hst,T.cells_snoc,List.length_append];exact hown'
    ·exact((hS.alloc _).alloc _).grown hgrow (fun q hq=>by have:=(hown.lt q hq).1;omega)
    ·exact((hp.alloc _).alloc _).grown hgrow (fun q hq=>by have:=(hown.lt q hq).1;omega)
    ·exact((hbr.alloc hbr.size _).alloc (by simp;omega) _).grown hgrow (by simp;omega) (fun q hq=>by have:=(hown.lt q hq).1;omega)
  ·have s0:=hS.cell 1
   simp only [List.getElem?_toArray,List.getElem?_cons_zero,List.getElem?_cons_succ]at s0
   have hne:B≠w.heap.size:=by omega
   have hlen:=T.outN_len c 1 k 1
   go_wp2_with (first
    |((with_reducible refine ze rfl _ rfl ?_);refine⟨_,_,rfl,(by first|assumption|exact hp.alloc _),?_⟩))
   refine(HM 0 dc _ (HT _ hbr)).mono ?_
   rintro e u1 ⟨he,hb⟩
   have hgs:=hbr.size
   replace hp:=hp.below hb
   replace hS:=hS.below hb
   replace hown:=zq hown hb
   have hbs:=hb.size
   replace hbr:=za hbr hb
   clear hb
   rcases he with⟨hcand,a,b,x,rfl⟩|⟨s,hcand,hs,rfl⟩
   ·have hst:T.outN c 1 k (1+1)=T.outN c 1 k 1:=by show T.outN c 1 k 1++((T.cand c 1 0 k).map fun s=>(k,s)).toList=_;rw [hcand];simp
    go_wp2
    exact⟨⟨1+1,by omega,by go_num,by rw [hst];exact hown.alloc _,hS.alloc _,hp.alloc _,hbr.alloc hbr.size _⟩,by simp [intOf]⟩
   ·have hst:T.outN c 1 k (1+1)=T.outN c 1 k 1++[(k,s)]:=by show T.outN c 1 k 1++((T.cand c 1 0 k).map fun s=>(k,s)).toList=_;rw [hcand];rfl
    have hlB:=hS.lt
    have hN:RowAt ((u1.alloc (.cells #[.int .i8 (k:Int),.int .i8 (s:Int),.int .u8 0,.int .u8 0,.bool true] 47)).alloc (.cells #[.int .i8 (k:Int),.int .i8 (s:Int),.int .u8 0,.int .u8 0,.bool true] 47)) (u1.heap.size+1) 47 (T.movL (k,s)).toArray:=by
     have:=RowAt.new (u1.alloc (.cells #[.int .i8 (k:Int),.int .i8 (s:Int),.int .u8 0,.int .u8 0,.bool true] 47)) #[.int .i8 (k:Int),.int .i8 (s:Int),.int .u8 0,.int .u8 0,.bool true] 47
     rwa [World.size_alloc]at this
    go_wp2_with (first
     |(at_builtin;refine wpList_append_own _ rfl _ _ 39 rfl (B+1) 47 i0 (.agg #[.int .i8 0,.int .i8 0,.int .u8 0,.int .u8 0,.bool false]) 5 5 underlying39 hi hz0 hz1 hz2 rfl dc _ _ _ rfl ((hown.alloc _).alloc _) ⟨_,0,none⟩ 1 1 (T.movL (k,s)) rfl rfl (zcW hN) (by intro q hq;simp [T.movL]at hq;rcases hq with rfl|rfl|rfl|rfl<;>rfl) (by unfold maxLen;omega) om (by simp;omega) ?_;intro v' w1 hown' hgrow _))
    refine⟨⟨1+1,by omega,by go_num,?_,?_,?_,?_⟩,by simp [intOf]⟩
    ·rw [hst,T.cells_snoc,List.length_append];exact hown'
    ·exact((hS.alloc _).alloc _).grown hgrow (fun q hq=>by have:=(hown.lt q hq).1;omega)
    ·exact((hp.alloc _).alloc _).grown hgrow (fun q hq=>by have:=(hown.lt q hq).1;omega)
    ·exact((hbr.alloc hbr.size _).alloc (by simp;omega) _).grown hgrow (by simp;omega) (fun q hq=>by have:=(hown.lt q hq).1;omega)
  ·go_wp2
   go_ret
   exact⟨_,rfl,hown.mono om,hbr⟩
theorem zfx(c:Nat→Int)(w:World)(hc:PosOk c)(hT:Tb w)(h:¬((0≤c 78∧c 78≤1)∧T.castles (c 0)=true∧0≤S.find c (c 78) 6∧(S.find c (c 78) 6).toNat/8=7*(c 78).toNat)):
  Calls prog 119 #[.agg (posC c)] w (T.End [] w):=by
 have hb0:Below w.heap.size w (w.alloc (.cells (posC c) 31)):=bA
 have hp:=PosAt.new w c
 obtain⟨v0,v1⟩:=zp hc (i:=0) dc rfl
 obtain⟨t0,t1⟩:=zp hc (i:=78) dc rfl
 obtain⟨v,hvv⟩:∃v:Nat,c 0=(v:Int):=⟨(c 0).toNat,by omega⟩
 have h0:=hp.cell (i:=0) dc
 have h78:=hp.cell (i:=78) dc
 rw [show pk 78= .u8 from rfl]at h78
 rw [hvv,show pk 0= .u8 from rfl]at h0
 rw [hvv]at h
 by_cases ht:c 78≤1
 ·obtain⟨b,hb⟩:∃b,T.castles (v:Int)=b:=⟨_,rfl⟩
  have HV:=hid (fun W=>(show Calls prog 170 #[.int .u8 (v:Int)] W fun e w'=>e= .returned (.bool b)∧Below W.heap.size W w' by rw [←hb];exact zbd v W))
  have HT:=hid (fun W (hb:Below w.heap.size w W)=>zi hT hb)
  cases b
  ·clear h hb
   obtain⟨n,hn⟩:∃n,c 78=n:=⟨_,rfl⟩
   rw [hn]at h78 ht
   go_enter func119,ntmps119
   go_wp2_with (first
    |((with_reducible refine ze rfl _ rfl ?_);refine⟨_,_,rfl,(by first|assumption|exact hp.alloc _),?_⟩)
    |(go_at_call 170;refine(HV _).mono ?_;rintro e u ⟨rfl,hb⟩;replace hp:=hp.below hb;replace hb0:=za hb0 hb;clear hb))
   go_ret
   exact⟨_,rfl,World.ownsRow_nil _ _ _ _,hb0⟩
  ·have hfind:S.find c (c 78) 6<0∨¬((S.find c (c 78) 6).toNat/8=7*(c 78).toNat):=by
    have:=Decidable.em (0≤S.find c (c 78) 6)
    rcases this with h1|h1
    ·refine .inr fun e=>h ⟨⟨t0,ht⟩,hb,h1,e⟩
    ·exact .inl om
   obtain⟨K,hK⟩:∃K,S.find c (c 78) 6=K:=⟨_,rfl⟩
   have HF:=hid (fun W (hT:Tb W)=>(show Calls prog 132 #[.agg (posC c),.int .u8 (c 78),.int .u8 6] W fun e w'=>e= .returned (.int .i64 K)∧Below W.heap.size W w' by rw [←hK];exact zW c _ _ _ (zw hc) hT))
   rw [hK]at hfind
   have hK64:K<64:=by rw [←hK,zcS c (c 78) (zw hc)];rcases D.find_bd c (c 78) 6 with e|⟨j,hj,e⟩<;>omega
   clear h hb hK
   rcases(show c 78=0∨c 78=1 by omega)with hct|hct
   all_goals
    rw [hct]at h78 hfind HF
    rcases hfind with hneg|hrow
    ·have hd:decide (K<0)=true:=decide_eq_true hneg
     go_enter func119,ntmps119
     go_wp2_with (first
      |((with_reducible refine ze rfl _ rfl ?_);refine⟨_,_,rfl,(by first|assumption|exact hp.alloc _),?_⟩)
      |(go_at_call 170;refine(HV _).mono ?_;rintro e u ⟨rfl,hb⟩;replace hp:=hp.below hb;replace hb0:=za hb0 hb;clear hb;have h78:=hp.cell (i:=78) dc;rw [hct,show pk 78= .u8 from rfl]at h78)
      |(go_at_call 132;refine(HF _ (HT _ hb0)).mono ?_;rintro e u ⟨rfl,hb⟩;replace hp:=hp.below hb;replace hb0:=za hb0 hb;clear hb;have h78:=hp.cell (i:=78) dc;rw [hct,show pk 78= .u8 from rfl]at h78))
     go_ret
     exact⟨_,rfl,World.ownsRow_nil _ _ _ _,hb0⟩
    ·by_cases hneg:K<0
     ·have hd:decide (K<0)=true:=decide_eq_true hneg
      clear hrow
      go_enter func119,ntmps119
      go_wp2_with (first
       |((with_reducible refine ze rfl _ rfl ?_);refine⟨_,_,rfl,(by first|assumption|exact hp.alloc _),?_⟩)
       |(go_at_call 170;refine(HV _).mono ?_;rintro e u ⟨rfl,hb⟩;replace hp:=hp.below hb;replace hb0:=za hb0 hb;clear hb;have h78:=hp.cell (i:=78) dc;rw [hct,show pk 78= .u8 from rfl]at h78)
       |(go_at_call 132;refine(HF _ (HT _ hb0)).mono ?_;rintro e u ⟨rfl,hb⟩;replace hp:=hp.below hb;replace hb0:=za hb0 hb;clear hb;have h78:=hp.cell (i:=78) dc;rw [hct,show pk 78= .u8 from rfl]at h78))
      go_ret
      exact⟨_,rfl,World.ownsRow_nil _ _ _ _,hb0⟩
     ·obtain⟨k,rfl⟩:∃k:Nat,K=(k:Int):=⟨K.toNat,by omega⟩
      obtain⟨q,hq⟩:∃q:Nat,k/8=q:=⟨_,rfl⟩
      rw [Int.toNat_natCast,hq]at hrow
      have hkd:(k:Int).tdiv 8=(q:Int):=by rw [Int.tdiv_eq_ediv_of_nonneg om];omega
      have hq8:q<8:=by omega
      have hne0:(q:Int)≠7*c 78:=by have h5:((1:Int).toNat)=1:=rfl;have h6:((0:Int).toNat)=0:=rfl;omega
      have hne1:((q:Int) !=7*c 78)=true:=by simpa using hne0
      rw [hct]at hne1
      simp only [Int.reduceMul]at hne1
      clear hq hK64 hne0
      go_enter func119,ntmps119
      go_wp2_with (first
       |((with_reducible refine ze rfl _ rfl ?_);refine⟨_,_,rfl,(by first|assumption|exact hp.alloc _),?_⟩)
       |(go_at_call 170;refine(HV _).mono ?_;rintro e u ⟨rfl,hb⟩;replace hp:=hp.below hb;replace hb0:=za hb0 hb;clear hb;have h78:=hp.cell (i:=78) dc;rw [hct,show pk 78= .u8 from rfl]at h78)
       |(go_at_call 132;refine(HF _ (HT _ hb0)).mono ?_;rintro e u ⟨rfl,hb⟩;replace hp:=hp.below hb;replace hb0:=za hb0 hb;clear hb;have h78:=hp.cell (i:=78) dc;rw [hct,show pk 78= .u8 from rfl]at h78)
       |(go_at_call 194;refine(zA _ _ dc).mono ?_;rintro e u ⟨rfl,rfl⟩))
      go_ret
      exact⟨_,rfl,World.ownsRow_nil _ _ _ _,hb0⟩
 ·have h1:1<c 78:=by omega
  clear h
  go_enter func119,ntmps119
  go_wp2
  go_ret
  exact⟨_,rfl,World.ownsRow_nil _ _ _ _,hb0⟩
theorem zgt(c:Nat→Int)(w:World)(hc:PosOk c)(hT:Tb w):
  Calls prog 119 #[.agg (posC c)] w (T.End (T.clist c) w):=by
 by_cases h:(0≤c 78∧c 78≤1)∧T.castles (c 0)=true∧0≤S.find c (c 78) 6∧(S.find c (c 78) 6).toNat/8=7*(c 78).toNat
 ·have e:T.clist c=T.outN c (c 78).toNat (S.find c (c 78) 6).toNat 2:=by rw [T.outN_two];unfold T.clist;rw [if_pos h]
  rw [e]
  obtain⟨⟨h0,h1⟩,hv,hf,hr⟩:=h
  have hk:(S.find c (c 78) 6).toNat<64:=by rw [zcS c (c 78) (zw hc)];rcases D.find_bd c (c 78) 6 with e|⟨j,hj,e⟩<;>omega
  rcases(show c 78=0∨c 78=1 by omega)with ht|ht
  ·rw [ht]at hf hr hk⊢
   exact ziW c _ w hc hT ht hv om hk (by have h6:((0:Int).toNat)=0:=rfl;omega)
  ·rw [ht]at hf hr hk⊢
   exact zio c _ w hc hT ht hv om hk (by have h6:((1:Int).toNat)=1:=rfl;omega)
 ·have e:T.clist c=[]:=by unfold T.clist;rw [if_neg h]
  rw [e]
  exact zfx c w hc hT h
end Go.Proofs.YtbakeajgolhkgaaGreatDoor
