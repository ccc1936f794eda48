import Derived.Great.BuildSlice
import Derived.Test.YtbakeajgolhkgaaGreatDoorYba
import Derived.Test.YtbakeajgolhkgaaGreatDoorYaw
import Derived.Test.YtbakeajgolhkgaaGreatDoorYax
import Derived.Test.YtbakeajgolhkgaaGreatDoorZl
set_option maxRecDepth 100000
set_option maxHeartbeats 8000000
open Go.Lib (hid)
namespace Go.Proofs.YtbakeajgolhkgaaGreatDoor
open Go.Proofs.Tryz
open Go.RowKit Go.Sort
attribute [local go_sem] Oper.semAt_some
theorem A.posR{w:World}{g:Nat}{c:Nat→Int}(h:PosAt w g c):w.rangeAt g 0 (posL c):=fun j v hv=>by
 rw [Nat.zero_add]
 simp only [World.cell?,h.heap]
 simpa [posC]using hv
theorem A.next_g{g:Nat}{c:Nat→Int}{w w1 w2:World}(h:Below g w w1)(hp:PosAt w1 g c)(hb:Below w1.heap.size w1 w2):Below g w w2:=h.trans (hb.mono (Nat.le_of_lt hp.lt))
theorem info_slM:(prog.info? 39).map (fun i=>(i.zero,i.size))=some (some (.slice none 0 0),1):=by kernel_rfl
theorem A.all_len(c:Nat→Int)(hc:PosOk c):(A.all c).length≤40000:=by
 unfold A.all
 have h1:=zd0 c
 have h2:=T.clist_len c
 have h3:(A.drops c).length≤320:=by
  rw [A.drops_eq c (zw hc)]
  split
  ·have:=A.dall_len c (c 78).toNat 5
   omega
  ·simp
 simp only [List.length_append,List.length_map]
 omega
theorem zgR(c:Nat→Int)(w:World)(hc:PosOk c)(hT:Tb w):Calls prog 120 #[.agg (posC c)] w (Z.End (A.drops c) w):=by
 rw [A.drops_eq c (zw hc)]
 by_cases h1:c 78≤1
 ·obtain⟨v0,_⟩:=zp hc (i:=0) dc rfl
  obtain⟨v,hv⟩:∃v:Nat,c 0=(v:Int):=⟨(c 0).toNat,by omega⟩
  obtain⟨t0,_⟩:=zp hc (i:=78) dc rfl
  by_cases h2:v=2
  ·rw [if_pos ⟨h1,by omega⟩]
   exact zgx c (c 78).toNat w hc hT om om om
  ·rw [if_neg (fun h=>h2 (by have:=h.2;omega))]
   exact zfh c v w h1 hv h2
 ·rw [if_neg (fun h=>h1 h.1)]
  exact zef c w h1
section
variable {P:Program} {ops:Array Oper} {Q:Exit→Act→World→Prop} {md:Region.Mode} {S:World→Prop} {fuel:Nat} {listed:Array Bool} {a:Act} {w:World}
theorem A.takeSlice(i:Nat)(d:Option Tmp)(t e:TypeId)(len:Nat)(parts:Array (Nat×Operand))(cells:Array Value)(ie:TypeInfo)(z:Value)(ho:Nat.blt i ops.size=true)(hr:Region.ready md ops listed=[i])(hw:Region.wanted (ops.getD i default) (yielded ops a.tmps)=true)
  (hd:(ops.getD i default).dst=d) (hop:(ops.getD i default).op= .buildSlice t len parts) (hu:P.underlying t=some (.slice e)) (hie:P.info? e=some ie) (hz:ie.zero=some z) (hsmall:¬len*ie.size>2 ^ 24) (hpos:¬len*ie.size=0)
  (hf:Instr.fill (fun i=>some (i*ie.size,ie.size)) ((Array.range (len*ie.size)).map (z.cells[· % z.cells.size]!)) (parts.map fun(i,x)=>(i,a.eval x)).toList=some cells)
  (h:S (w.alloc (.cells cells e))∧wpAnyH P md ops Q S fuel (listed.setIfInBounds i true) (a.put d (.slice (some ⟨w.heap.size,0,none⟩) len len)) (w.alloc (.cells cells e))):wpAnyH P md ops Q S (fuel+1) listed a w:=by
 refine takeOne i ho hr hw ?_
 refine wp_buildSlice t e len parts hop cells ie z hu hie hz hsmall hpos hf ?_
 rw [hd]
 exact h
end
theorem zeH(c:Nat→Int)(w:World)(hc:PosOk c)(hT:Tb w):
  Calls prog 50 #[.agg (posC c)] w (Z.End (A.all c) w):=by
 have hp:=PosAt.new w c
 have hb0:Below w.heap.size w (w.alloc (.cells (posC c) 31)):=bA
 have hT0:Tb (w.alloc (.cells (posC c) 31)):=zi hT hb0
 obtain⟨g,hg⟩:∃g,w.heap.size=g:=⟨_,rfl⟩
 have hp31:=underlying31
 have HLen:=hid (A.all_len c hc)
 go_enter func50,ntmps50
 go_wp2_with fail
 rw [hg]at hp hb0
 try rw [hg]
 obtain⟨W,hW⟩:∃W,w.alloc (.cells (posC c) 31)=W:=⟨_,rfl⟩
 rw [hW]at hp hb0 hT0⊢
 refine wp_region_held (S:=fun w'=>PosAt w' g c∧Below g w w') kr ?_
 have hSd:PosAt W.drew g c∧Below g w W.drew:=⟨⟨hp.heap⟩,M.below_drew hb0 1⟩
 have hTd:Tb W.drew:=zi hT0 (M.below_drew (Below.refl _ _) 1)
 clear hp hb0 hT0 hW hT
 obtain⟨V,hV⟩:∃V,W.drew=V:=⟨_,rfl⟩
 rw [hV]at hSd hTd
 rw [show({heap:=W.heap,tape:=W.tape,drawn:=W.drawn+1,os:=W.os,output:=W.output}:World)=V from hV]
 clear hV
 refine te 0 (some 3) (.agg (posC c)) (yieldsIf_load_mid kr 31 (.tmp 1) kr g 0 kr (posL c) _ (fun _ h=>A.posR h.1) hp31 rfl (A.posL_info c)) hSd ?_
 refine te 2 (some 5) (.agg (posC c)) (yieldsIf_load_mid kr 31 (.tmp 1) kr g 0 kr (posL c) _ (fun _ h=>A.posR h.1) hp31 rfl (A.posL_info c)) hSd ?_
 refine te 4 (some 7) (.agg (posC c)) (yieldsIf_load_mid kr 31 (.tmp 1) kr g 0 kr (posL c) _ (fun _ h=>A.posR h.1) hp31 rfl (A.posL_info c)) hSd ?_
 refine takeCallE 1 (some 4) 118 (#[.agg (posC c)]) (fun v w9=>w9.ownsRow V.heap.size 47 5 v (D.lst c).length (M.cells (D.lst c))∧Below V.heap.size V w9) kr kr kr kr kr (zdh c _ hc hTd) (fun v1 w1 hR1=> ?_)
 obtain⟨a1,k1,rfl,_,_,_⟩:=M.row_open hR1.1
 have r1:=M.reads_own hR1.1
 obtain⟨n1,hn1⟩:∃n1,(D.lst c).length=n1:=⟨_,rfl⟩
 rw [hn1]at r1⊢
 simp only [Act.put,sA,sB,sC]
 have hS1:PosAt w1 g c∧Below g w w1:=⟨hSd.1.below hR1.2,A.next_g hSd.2 hSd.1 hR1.2⟩
 have hT1:=zi hTd hR1.2
 refine⟨hS1,?_⟩
 clear hSd hTd hR1
 refine takeCallE 3 (some 6) 119 (#[.agg (posC c)]) (fun v w9=>w9.ownsRow (w1.heap.size+1) 47 5 v ((T.clist c).map T.toMv).length (M.cells ((T.clist c).map T.toMv))∧Below w1.heap.size w1 w9) kr kr kr kr kr (zgW c _ _ hc hT1 rfl) (fun v2 w2 hR2=> ?_)
 obtain⟨a2,k2,rfl,_,_,_⟩:=M.row_open hR2.1
 have r2:=M.reads_own hR2.1
 obtain⟨n2,hn2⟩:∃n2,((T.clist c).map T.toMv).length=n2:=⟨_,rfl⟩
 rw [hn2]at r2⊢
 simp only [Act.put,sA,sB,sC]
 have hS2:PosAt w2 g c∧Below g w w2:=⟨hS1.1.below hR2.2,A.next_g hS1.2 hS1.1 hR2.2⟩
 have hT2:=zi hT1 hR2.2
 replace r1:=r1.below hR2.2
 refine⟨hS2,?_⟩
 clear hS1 hT1 hR2
 refine takeCallE 5 (some 8) 120 (#[.agg (posC c)]) (fun v w9=>w9.ownsRow w2.heap.size 47 5 v (A.drops c).length (M.cells (A.drops c))∧Below w2.heap.size w2 w9) kr kr kr kr kr (zgR c _ hc hT2) (fun v3 w3 hR3=> ?_)
 obtain⟨a3,k3,rfl,_,_,_⟩:=M.row_open hR3.1
 have r3:=M.reads_own hR3.1
 obtain⟨n3,hn3⟩:∃n3,(A.drops c).length=n3:=⟨_,rfl⟩
 rw [hn3]at r3⊢
 simp only [Act.put,sA,sB,sC]
 have hS3:PosAt w3 g c∧Below g w w3:=⟨hS2.1.below hR3.2,A.next_g hS2.2 hS2.1 hR3.2⟩
 replace r1:=r1.below hR3.2
 replace r2:=r2.below hR3.2
 refine⟨hS3,?_⟩
 clear hS2 hT2 hR3
 obtain⟨ie,hie,hz0,hz1⟩:∃ie,prog.info? 39=some ie∧ie.zero=some (.slice none 0 0)∧ie.size=1:=by
  have h:=info_slM
  cases e:prog.info? 39 with
  |none=>rw [e]at h;cases h
  |some i=>
   rw [e]at h
   simp only [Option.map_some,Option.some.injEq,Prod.mk.injEq]at h
   exact⟨i,rfl,h.1,h.2⟩
 refine A.takeSlice 6 (some 9) 41 39 3 #[(0,.tmp 4),(1,.tmp 6),(2,.tmp 8)] #[.slice a1 n1 k1,.slice a2 n2 k2,.slice a3 n3 k3] ie (.slice none 0 0) kr kr kr kr kr kr hie hz0 (by rw [hz1];decide) (by rw [hz1];decide) (by rw [hz1];kernel_rfl) ?_
 simp only [Act.put,sA,sB,sC]
 have hRw:=RowAt.new w3 #[.slice a1 n1 k1,.slice a2 n2 k2,.slice a3 n3 k3] 39
 have hA4:Below w3.heap.size w3 (w3.alloc (.cells #[.slice a1 n1 k1,.slice a2 n2 k2,.slice a3 n3 k3] 39)):=bA
 obtain⟨w4,hw4⟩:∃w4,w3.alloc (.cells #[.slice a1 n1 k1,.slice a2 n2 k2,.slice a3 n3 k3] 39)=w4:=⟨_,rfl⟩
 rw [hw4]at hRw hA4⊢
 have hS4:PosAt w4 g c∧Below g w w4:=⟨hS3.1.below hA4,A.next_g hS3.2 hS3.1 hA4⟩
 replace r1:=r1.below hA4
 replace r2:=r2.below hA4
 replace r3:=r3.below hA4
 have hlt4:=hRw.lt
 obtain⟨g3,hg3⟩:∃g3,w3.heap.size=g3:=⟨_,rfl⟩
 rw [hg3]at hRw hlt4⊢
 refine⟨hS4,?_⟩
 have hcat:M.cat [(Value.slice a1 n1 k1,D.lst c),(Value.slice a2 n2 k2,(T.clist c).map T.toMv),(Value.slice a3 n3 k3,A.drops c)] 3=A.all c:=by
  unfold M.cat A.all
  simp
 have hCc:=zeW g3 3 [(Value.slice a1 n1 k1,D.lst c),(Value.slice a2 n2 k2,(T.clist c).map T.toMv),(Value.slice a3 n3 k3,A.drops c)] w4 (Nat.le_refl _) sp (fun j x hj=>by
  match j,hj with
  |0,hj=>cases hj;exact hRw.cell 0
  |1,hj=>cases hj;exact hRw.cell 1
  |2,hj=>cases hj;exact hRw.cell 2
  |j+3,hj=>cases hj) hlt4 (fun j x hj=>by
  match j,hj with
  |0,hj=>cases hj;exact r1
  |1,hj=>cases hj;exact r2
  |2,hj=>cases hj;exact r3
  |j+3,hj=>cases hj) (by
  have:=HLen.out
  show(M.cat _ 3).length≤100000
  rw [hcat];omega)
 have hCd:Calls prog 117 #[.slice (some ⟨g3,0,none⟩) 3 3] w4 fun e w'=>∃v,e= .returned v∧(w'.ownsRow w4.heap.size 47 5 v (A.all c).length (M.cells (A.all c))∧Below w4.heap.size w4 w'):=by
  rw [←hcat];exact hCc
 clear hCc hRw hA4 r1 r2 r3 hw4 hS3
 refine takeCallE 7 (some 10) 117 (#[.slice (some ⟨g3,0,none⟩) 3 3]) (fun v w9=>w9.ownsRow w4.heap.size 47 5 v (A.all c).length (M.cells (A.all c))∧Below w4.heap.size w4 w9) kr kr kr kr kr hCd (fun v5 w5 hR5=> ?_)
 simp only [Act.put,sA,sB,sC]
 have hS5:PosAt w5 g c∧Below g w w5:=⟨hS4.1.below hR5.2,A.next_g hS4.2 hS4.1 hR5.2⟩
 refine⟨hS5,?_⟩
 refine takeD 8 (some 2) v5 kr kr kr kr kr (fun _ _ _ h=>h) (zo (v0:=v5) kr (fun _=>by kernel_rfl) rfl) hS5 ?_
 simp only [Act.put,sA,sB,sC]
 refine wpAnyH_done kr ?_ _
 have HF:=hid (And.intro hR5.1 (And.intro hS4.2 hS5.2))
 clear hS5 hR5 hS4
 go_wp2
 go_ret
 exact⟨_,rfl,zbs HF.1 (by have:=HF.2.1.size;omega),hg▸HF.2.2⟩
namespace A
def ri(q:Nat→Int)(m:Mv)(t:Int)(col:Nat):Nat→Nat→Int
 |0=>q
 |n+1=>rights1 (ri q m t col n) m t col n
def rc(q:Nat→Int)(m:Mv)(t:Int):Nat→Nat→Int
 |0=>q
 |n+1=>ri (rc q m t n) m t n 2
theorem rights_rc(c q:Nat→Int)(m:Mv)(t:Int):rights c q m t=rc (rights0 c q m) m t 2:=rfl
theorem zgM(q:Nat→Int)(i:Nat)(n:Int)(g:Int→Bool)(hi:65≤i):∀k,k≤64→S.upTo (upd q i n) g k=S.upTo q g k
 |0,_=>rfl
 |k+1,hk=>by
  have h:upd q i n (1+k)=q (1+k):=by unfold upd;rw [if_neg om]
  rw [S.upTo,S.upTo,h,zgM q i n g hi k om]
theorem zii(q:Nat→Int)(i:Nat)(n a k:Int)(hi:65≤i):S.find (upd q i n) a k=S.find q a k:=by
 unfold S.find S.of S.set
 rw [zgM q i n _ hi 64 (Nat.le_refl _)]
theorem zig(q:Nat→Int)(m:Mv)(t:Int)(col side:Nat)(a k:Int):S.find (rights1 q m t col side) a k=S.find q a k:=by
 unfold rights1
 split
 ·exact zii _ _ _ _ _ om
 ·rfl
theorem ri_find(q:Nat→Int)(m:Mv)(t:Int)(col:Nat)(a k:Int):∀n,S.find (ri q m t col n) a k=S.find q a k
 |0=>rfl
 |n+1=>by rw [ri,zig,ri_find q m t col a k n]
theorem ri_cell(q:Nat→Int)(m:Mv)(t:Int)(col i:Nat):∀n,n≤i→ri q m t col n (79+2*col+i)=q (79+2*col+i)
 |0,_=>rfl
 |n+1,h=>by
  rw [ri]
  unfold rights1
  split
  ·rw [show upd (ri q m t col n) (79+2*col+n) (-1) (79+2*col+i)=ri q m t col n (79+2*col+i) by unfold upd;rw [if_neg om]]
   exact ri_cell q m t col i n om
  ·exact ri_cell q m t col i n om
theorem ok_ri{q:Nat→Int}(h:PosOk q)(m:Mv)(t:Int)(col:Nat)(hc:col≤1):∀n,n≤2→PosOk (ri q m t col n)
 |0,_=>h
 |n+1,hn=>zaD (ok_ri h m t col hc n om) m t col n hc om
theorem ok_rc{q:Nat→Int}(h:PosOk q)(m:Mv)(t:Int):∀n,n≤2→PosOk (rc q m t n)
 |0,_=>h
 |n+1,hn=>ok_ri (ok_rc h m t n om) m t n om 2 (Nat.le_refl _)
theorem gone_eq(q:Nat→Int)(F:Nat)(g p d:Int)(ca:Bool)(t:Int)(col side:Nat)(f K:Int)(hf:q (79+2*col+side)=f)(hK:S.find q col 6=K):gone q ((F:Int),g,p,d,ca) t col side=(decide (0≤f)&&(decide (f≤7)&&(t==56*col+f||(d==0&&(F:Int)==56*col+f)||decide (K<0)||(K/8 !=7*col)||(q (1+(56*col+f).toNat) !=P.make col 4)))):=by
 unfold gone
 try dsimp only
 rw [hf,hK]
theorem w_i(n:Nat)(h:n<64):IntKind.i64.wrap (n:Int)=(n:Int):=by rw [IntKind.wrap_i64];omega
theorem w_64(n:Nat)(h:n<64):wrap64 (n:Int)=(n:Int):=by simp only [wrap64];omega
theorem w_56(n:Nat)(h:n<64):wrap64 (56*(n:Int))=56*(n:Int):=by simp only [wrap64];omega
theorem w_7(n:Nat)(h:n<64):wrap64 (7*(n:Int))=7*(n:Int):=by simp only [wrap64];omega
theorem k_q(k q:Nat)(h:q=k/8):(k:Int).tdiv 8=(q:Int):=by rw [Int.tdiv_eq_ediv_of_nonneg om];omega
theorem w_s(n f s:Nat)(h:s=56*n+f)(hs:s<64):wrap64 (56*(n:Int)+(f:Int))=56*(n:Int)+(f:Int):=by simp only [wrap64];omega
theorem idx2_0(x y:Int)(w:World):(Instr.index 27 (.agg #[.int .i8 x,.int .i8 y]) (.int .i64 0)).run prog w= .ok (.int .i8 x) w:=by kernel_rfl
theorem idx2_1(x y:Int)(w:World):(Instr.index 27 (.agg #[.int .i8 x,.int .i8 y]) (.int .i64 1)).run prog w= .ok (.int .i8 y) w:=by kernel_rfl
end A
theorem zdU(q c:Nat→Int)(F:Nat)(g p d:Int)(ca:Bool)(t:Int)(b:Nat)(w0 w:World)(hM:A.MvAt w b q c ((F:Int),g,p,d,ca) t)(hC:A.Ctx w0 w b)(hF:F<64)(hc:BdOk c)(hq:PosOk q)(h78:q 78≤1):
  Calls prog 55 #[.pointer (some ⟨b,0,none⟩)] w fun e w'=>e= .returned (.tuple #[])∧A.Step b (A.rights c q ((F:Int),g,p,d,ca) t) c ((F:Int),g,p,d,ca) t w w':=by
 have Hq:=hid hq
 obtain⟨kk,hkk⟩:∃kk,A.kind c ((F:Int),g,p,d,ca)=kk:=⟨_,rfl⟩
 have HK:Hid (∀W,A.MvAt W b q c ((F:Int),g,p,d,ca) t→Calls prog 131 #[.pointer (some ⟨b,0,none⟩)] W fun e w'=>e= .returned (.int .u8 kk)∧Below W.heap.size W w'):=hid (fun W h=>hkk▸zI _ c F g p d ca t b W h hF hc)
 obtain⟨K0,hK0⟩:∃K0:Bool,((kk==6)&&(d==0))=K0:=⟨_,rfl⟩
 have HK0:=hid hK0
 have E0:=hid (show A.rights0 c q ((F:Int),g,p,d,ca)=if K0=true then upd (upd q (79+2*(q 78).toNat) (-1)) (80+2*(q 78).toNat) (-1)else q by
  unfold A.rights0
  rw [hkk,←hK0]
  by_cases h1:kk=6<;>by_cases h2:d=0<;>simp [h1,h2])
 have HO0:=hid (A.ok_rights0 hq c ((F:Int),g,p,d,ca) h78)
 have t0:=(zp hq (i:=78) dc rfl).1
 have H78:=hid (And.intro t0 h78)
 have HCt:=hid hC
 have hp31:=underlying31
 have h2u:=underlying27
 have G0:=hid (World.grownBy.refl w (some b))
 have HM0:=hid hM
 clear hq hc hkk hK0 hC t0 h78 hM
 go_enter func55,ntmps55
 go_upto_region 0 with fail
 go_cut [18]from 8 (fun s18 wx=>s18= .bool K0∧A.MvAt wx b q c ((F:Int),g,p,d,ca) t∧w.grownBy wx (some b))
 case first=>
  have hK0:=HK0.out
  cases h1:(kk==6)
  ·rw [h1]at hK0
   have EK:=hid hK0
   clear hK0
   go_wp2_with (go_at_call 131;refine(HK _ HM0).mono ?_;rintro e w1 ⟨rfl,hb1⟩;have hM1:=HM0.below hb1;have G1:=A.below_step G0 hb1;clear hb1)
   go_meet
   exact⟨by rw [←EK.out];rfl,hM1,G1⟩
  ·cases h2:(d==0)
   all_goals
    rw [h1,h2]at hK0
    have EK:=hid hK0
    clear hK0
    go_wp2_with (go_at_call 131;refine(HK _ HM0).mono ?_;rintro e w1 ⟨rfl,hb1⟩;have hM1:=HM0.below hb1;have G1:=A.below_step G0 hb1;have h179:w1.cell? ⟨b,179,none⟩=some (.int .u8 d):=hM1.atm 3 _ rfl;have hbl:=hM1.lt;clear hb1)
    go_meet
    exact⟨by rw [←EK.out];rfl,hM1,G1⟩
 case rest=>
  obtain⟨rfl,hM1,G1⟩:=hcut
  have HM1:=hid hM1
  have HG1:=hid G1
  clear hM1 G1 HM0 G0 HK
  go_upto_if 18 with fail
  go_cut [2]from 8 (fun s2 wx=>A.MvAt wx b (A.rights0 c q ((F:Int),g,p,d,ca)) c ((F:Int),g,p,d,ca) t∧w.grownBy wx (some b))
  case first=>
   have e0:=E0.out
   cases K0
   ·rw [if_neg sp]at e0
    have E1:=hid e0
    clear e0
    go_wp2
    go_meet
    exact⟨by rw [E1.out];exact HM1.out,HG1⟩
   ·rw [if_pos rfl]at e0
    have h78:=H78.out
    rcases(show q 78=0∨q 78=1 by omega)with e|e
    all_goals
     rw [e]at e0
     have E1:=hid e0
     have c78:wc.cell? ⟨b,78,none⟩=some (.int .u8 (q 78)):=HM1.atq 78 dc .u8 rfl
     rw [e]at c78
     have hbl:=HM1.lt
     clear e0 h78 e
     go_wp2_with fail
     refine zl (n:=11) kr kr ?_
     simp only [List.take_succ_cons,List.take_zero,List.drop_succ_cons,List.drop_zero]
     repeat(quiet_step (fail))
     refine wpQuiet_nil ?_
     intro w5 hb5
     have hM5:=HM1.below hb5
     have G5:=A.below_step HG1 hb5
     clear c78 hbl hb5
     go_wp2_with ((with_reducible refine zdF rfl _ _ rfl ?_);(first|(refine⟨b,79,q,c,_,t,-1,-1,rfl,rfl,.inl rfl,hM5,?_⟩)|(refine⟨b,81,q,c,_,t,-1,-1,rfl,rfl,.inr rfl,hM5,?_⟩));intro w6 hP6 hM6)
     go_meet
     exact⟨by rw [E1.out];exact hM6,A.put_grown G5 hP6⟩
  case rest=>
   obtain⟨hM2,G2⟩:=hcut
   obtain⟨q0,hq0⟩:∃q0,A.rights0 c q ((F:Int),g,p,d,ca)=q0:=⟨_,rfl⟩
   have ER:=hid (show A.rights c q ((F:Int),g,p,d,ca) t=A.rc q0 ((F:Int),g,p,d,ca) t 2 by rw [A.rights_rc,hq0])
   rw [hq0]at hM2 HO0
   have HM2:=hid hM2
   have HG2:=hid G2
   clear hM2 G2 HM1 HG1 hq0 E0
   go_wp2_with fail
   go_loopw [2] (fun x wr=>∃n:Nat,n≤2∧x= .int .u8 (n:Int)∧A.MvAt wr b (A.rc q0 ((F:Int),g,p,d,ca) t n) c ((F:Int),g,p,d,ca) t∧w.grownBy wr (some b)) (fun x _=>2-(intOf x).toNat)
   case atStart=>exact⟨0,by omega,rfl,HM2,HG2⟩
   case round=>
    obtain⟨n,hn,rfl,hMr,Gr⟩:=hrel
    by_cases hlt:n<2
    ·have hd1:decide ((n:Int)≤1)=true:=by simp;omega
     obtain⟨Q,hQ⟩:∃Q,A.rc q0 ((F:Int),g,p,d,ca) t n=Q:=⟨_,rfl⟩
     have HQ:=hid (show A.rc q0 ((F:Int),g,p,d,ca) t (n+1)=A.ri Q ((F:Int),g,p,d,ca) t n 2 by rw [A.rc,hQ])
     have HOQ:=hid (hQ▸A.ok_rc HO0 ((F:Int),g,p,d,ca) t n om:PosOk Q)
     rw [hQ]at hMr
     obtain⟨K,hK⟩:∃K,S.find Q (n:Int) 6=K:=⟨_,rfl⟩
     have hKb:K= -1∨∃j:Nat,j<64∧K=(j:Int):=by rw [←hK,zcS Q _ (zw HOQ.out)];exact D.find_bd _ _ _
     have HFd:Hid (∀W,Tb W→Calls prog 132 #[.agg (posC Q),.int .u8 (n:Int),.int .u8 6] W fun e w'=>e= .returned (.int .i64 K)∧Below W.heap.size W w'):=hid (fun W hT=>hK▸zW Q (n:Int) 6 W (zw HOQ) hT)
     have HKK:=hid hK
     have HKb:=hid hKb
     have hrq:=hMr.rq
     have hTr:=hid ((HCt.grown Gr).tb')
     have HMr:=hid hMr
     have HGr:=hid Gr
     clear hK hKb hQ hn hMr Gr
     have hlt2:(n:Int)<2:=by omega
     go_upto_region 6 with(first
      |((with_reducible refine zbX rfl 31 _ rfl hp31 rfl ?_);refine⟨b,0,posL Q,rfl,hrq,A.posL_info _,?_⟩)
      |(go_at_call 132;refine(HFd _ hTr.out).mono ?_;rintro e w3 ⟨rfl,hb3⟩))
     have hM3:=HMr.below hb3
     have G3:=A.below_step HGr hb3
     have cA:w3.cell? ⟨b,79+n*2,none⟩=some (.int .i8 (Q (79+2*n))):=by rw [show 79+n*2=79+2*n by omega];exact hM3.atq _ om _ (A.pk_r om)
     have cB:w3.cell? ⟨b,79+n*2+1,none⟩=some (.int .i8 (Q (79+2*n+1))):=by rw [show 79+n*2=79+2*n by omega];exact hM3.atq _ om _ (A.pk_r om)
     have hbl:=hM3.lt
     have HM3:=hid hM3
     have HG3:=hid G3
     clear hb3 hrq HMr HGr hM3 G3
     go_wp2_with fail
     clear cA cB hbl
     obtain⟨r0,hr0⟩:∃r0,Q (79+2*n)=r0:=⟨_,rfl⟩
     obtain⟨r1,hr1⟩:∃r1,Q (79+2*n+1)=r1:=⟨_,rfl⟩
     rw [hr0,hr1]
     have Hr:=hid (And.intro hr0 hr1)
     clear hr0 hr1
     go_loopw [47] (fun x wr=>∃i:Nat,i≤2∧x= .int .i64 (i:Int)∧A.MvAt wr b (A.ri Q ((F:Int),g,p,d,ca) t n i) c ((F:Int),g,p,d,ca) t∧w.grownBy wr (some b)) (fun x _=>2-(intOf x).toNat)
     case atStart=>exact⟨0,by omega,rfl,HM3,HG3⟩
     case round=>
      obtain⟨i,hi,rfl,hMi,Gi⟩:=hrel
      by_cases hli:i<2
      ·skip
       have hn64:n<64:=by omega
       obtain⟨q1,hq1⟩:∃q1,A.ri Q ((F:Int),g,p,d,ca) t n i=q1:=⟨_,rfl⟩
       have hf1:=A.ri_cell Q ((F:Int),g,p,d,ca) t n i i (Nat.le_refl _)
       have hK1:=(A.ri_find Q ((F:Int),g,p,d,ca) t n (n:Int) 6 i).trans HKK.out
       have hri:A.ri Q ((F:Int),g,p,d,ca) t n (i+1)=A.rights1 q1 ((F:Int),g,p,d,ca) t n i:=by rw [A.ri,hq1]
       rw [hq1]at hf1 hK1 hMi
       have GE:=fun f h=>A.gone_eq q1 F g p d ca t n i f K h hK1
       have h181:=hMi.att
       have h179:wr.cell? ⟨b,179,none⟩=some (.int .u8 d):=hMi.atm 3 _ rfl
       have h176:wr.cell? ⟨b,176,none⟩=some (.int .i8 (F:Int)):=hMi.atm 0 _ rfl
       have hbl:=hMi.lt
       have hBD:∀s,s<64→wr.cell? ⟨b,1+s,none⟩=some (.int .u8 (q1 (1+s))):=fun s hs=>hMi.atq (1+s) om _ (A.pk_sq om)
       have HMi:=hid hMi
       have HGi:=hid Gi
       have HRI:=hid hri
       have HI:=hid hi
       have HMk:Hid (∀W,Calls prog 126 #[.int .u8 (n:Int),.int .u8 4] W fun e w'=>e= .returned (.int .u8 (P.make (n:Int) 4))∧Below W.heap.size W w'):=hid (fun W=>A.make_b (n:Int) 4 W om om om om)
       have HGE:=hid GE
       have HBD:=hid hBD
       have HKB:=hid HKb.out
       clear hMi Gi hri hi GE hK1 hBD hq1
       rcases(show i=0∨i=1 by omega)with rfl|rfl
       ·have HG:=hid (HGE r0 (hf1.trans Hr.1))
        have hix:=A.idx2_0 r0 r1
        clear hf1
        cases l0:decide (r0<0)
        ·cases l7:decide (7<r0)
         ·have r0':0≤r0:=by simpa using l0
          have r7':r0≤7:=by simpa using l7
          obtain⟨f,rfl⟩:∃f:Nat,r0=(f:Int):=⟨r0.toNat,by omega⟩
          have hs64:56*(n:Int)+(f:Int)<64:=by omega
          have hs64n:56*n+f<64:=by omega
          have hse:(56*(n:Int)+(f:Int)).toNat=56*n+f:=by omega
          have hg:=HG.out
          rw [hse,decide_eq_true r0',decide_eq_true r7',Bool.true_and,Bool.true_and]at hg
          replace HG:=hid hg
          have hf64:f<64:=by omega
          have hbs:=HBD (56*n+f) hs64n
          clear hse hg r0' r7'
          cases e1:(t==56*(n:Int)+(f:Int))
          ·cases e2:(d==0)
           ·rcases HKB.out with hk|⟨kn,hk64,hk⟩
            ·have dK:decide (K<0)=true:=by rw [hk];rfl
             clear hk
             have E:=hid (show A.ri Q ((F:Int),g,p,d,ca) t n (0+1)=upd q1 (79+n*2) (-1) by rw [HRI.out];unfold A.rights1;rw [if_pos (by rw [HG.out,e1,e2,dK];simp),show 79+2*n+0=79+n*2 by omega])
             have HdK:=hid dK
             clear dK
             have hwn:=A.w_i n hn64
             have hw56:=A.w_56 n hn64
             have hwF:=A.w_i F hF
             have hwf:=A.w_i f hf64
             have hws:=A.w_s n f _ rfl hs64n
             go_upto_region 12 with fail
             clear hw56 hwF hwf hws
             have dK:=HdK.out
             have hw7:=A.w_7 n hn64
             refine rB ?_
             repeat(go_big_quiet_step (first
              |(go_at_call 126;exact zd (HMk _))))
             refine wpQuiet_nil ?_
             intro w5 hb5
             clear hwn hw7
             have hM5:=HMi.below hb5
             have G5:=A.below_step HGi hb5
             clear hb5 h181 h179 h176 hbl hbs
             go_wp2_with ((with_reducible refine zg rfl _ _ _ rfl ?_);refine⟨b,79+n*2,q1,c,_,t,-1,.i8,rfl,rfl,om,A.pk_r om,kr,hM5,?_⟩;intro w7 hP7 hM7)
             go_roundw
             case rel=>exact⟨0+1,by omega,by go_num,by rw [E.out];exact hM7,A.put_grown G5 hP7⟩
             case measure=>simp [intOf]
            ·have dK:decide (K<0)=false:=by rw [hk];simp
             obtain⟨kq,hkq⟩:∃kq:Nat,kq=kn/8:=⟨_,rfl⟩
             have hkq8:K/8=(kq:Int):=by rw [hk];omega
             have HKQ64:=hid (show kq<64 by omega)
             have hg:=HG.out
             rw [hkq8]at hg
             replace HG:=hid hg
             have HKQ:=hid (show K.tdiv 8=(kq:Int) by rw [hk];exact A.k_q kn kq hkq)
             clear hkq8 hg hkq hk hk64
             cases n1:((kq:Int) !=7*(n:Int))
             ·cases n2:(q1 (1+(56*n+f)) !=P.make (n:Int) 4)
              ·have E:=hid (show A.ri Q ((F:Int),g,p,d,ca) t n (0+1)=q1 by rw [HRI.out];unfold A.rights1;rw [if_neg (by rw [HG.out,e1,e2,dK,n1,n2];simp)])
               have HdK:=hid dK
               have Hn1:=hid n1
               have Hn2:=hid n2
               clear dK n1 n2
               have hwn:=A.w_i n hn64
               have hw56:=A.w_56 n hn64
               have hwF:=A.w_i F hF
               have hwf:=A.w_i f hf64
               have hws:=A.w_s n f _ rfl hs64n
               go_upto_region 12 with fail
               clear hw56 hwF hwf hws
               have dK:=HdK.out
               have n1:=Hn1.out
               have n2:=Hn2.out
               have hw7:=A.w_7 n hn64
               have hkd:=HKQ.out
               have hwd:=A.w_64 kq HKQ64.out
               refine rB ?_
               repeat(go_big_quiet_step (first
                |(go_at_call 126;exact zd (HMk _))))
               refine wpQuiet_nil ?_
               intro w5 hb5
               clear hwn hw7 hkd hwd
               have hM5:=HMi.below hb5
               have G5:=A.below_step HGi hb5
               clear hb5 h181 h179 h176 hbl hbs
               go_wp2
               go_roundw
               case rel=>exact⟨0+1,by omega,by go_num,by rw [E.out];exact hM5,G5⟩
               case measure=>simp [intOf]
              ·have E:=hid (show A.ri Q ((F:Int),g,p,d,ca) t n (0+1)=upd q1 (79+n*2) (-1) by rw [HRI.out];unfold A.rights1;rw [if_pos (by rw [HG.out,e1,e2,dK,n1,n2];simp),show 79+2*n+0=79+n*2 by omega])
               have HdK:=hid dK
               have Hn1:=hid n1
               have Hn2:=hid n2
               clear dK n1 n2
               have hwn:=A.w_i n hn64
               have hw56:=A.w_56 n hn64
               have hwF:=A.w_i F hF
               have hwf:=A.w_i f hf64
               have hws:=A.w_s n f _ rfl hs64n
               go_upto_region 12 with fail
               clear hw56 hwF hwf hws
               have dK:=HdK.out
               have n1:=Hn1.out
               have n2:=Hn2.out
               have hw7:=A.w_7 n hn64
               have hkd:=HKQ.out
               have hwd:=A.w_64 kq HKQ64.out
               refine rB ?_
               repeat(go_big_quiet_step (first
                |(go_at_call 126;exact zd (HMk _))))
               refine wpQuiet_nil ?_
               intro w5 hb5
               clear hwn hw7 hkd hwd
               have hM5:=HMi.below hb5
               have G5:=A.below_step HGi hb5
               clear hb5 h181 h179 h176 hbl hbs
               go_wp2_with ((with_reducible refine zg rfl _ _ _ rfl ?_);refine⟨b,79+n*2,q1,c,_,t,-1,.i8,rfl,rfl,om,A.pk_r om,kr,hM5,?_⟩;intro w7 hP7 hM7)
               go_roundw
               case rel=>exact⟨0+1,by omega,by go_num,by rw [E.out];exact hM7,A.put_grown G5 hP7⟩
               case measure=>simp [intOf]
             ·have E:=hid (show A.ri Q ((F:Int),g,p,d,ca) t n (0+1)=upd q1 (79+n*2) (-1) by rw [HRI.out];unfold A.rights1;rw [if_pos (by rw [HG.out,e1,e2,dK,n1];simp),show 79+2*n+0=79+n*2 by omega])
              have HdK:=hid dK
              have Hn1:=hid n1
              clear dK n1
              have hwn:=A.w_i n hn64
              have hw56:=A.w_56 n hn64
              have hwF:=A.w_i F hF
              have hwf:=A.w_i f hf64
              have hws:=A.w_s n f _ rfl hs64n
              go_upto_region 12 with fail
              clear hw56 hwF hwf hws
              have dK:=HdK.out
              have n1:=Hn1.out
              have hw7:=A.w_7 n hn64
              have hkd:=HKQ.out
              have hwd:=A.w_64 kq HKQ64.out
              refine rB ?_
              repeat(go_big_quiet_step (first
               |(go_at_call 126;exact zd (HMk _))))
              refine wpQuiet_nil ?_
              intro w5 hb5
              clear hwn hw7 hkd hwd
              have hM5:=HMi.below hb5
              have G5:=A.below_step HGi hb5
              clear hb5 h181 h179 h176 hbl hbs
              go_wp2_with ((with_reducible refine zg rfl _ _ _ rfl ?_);refine⟨b,79+n*2,q1,c,_,t,-1,.i8,rfl,rfl,om,A.pk_r om,kr,hM5,?_⟩;intro w7 hP7 hM7)
              go_roundw
              case rel=>exact⟨0+1,by omega,by go_num,by rw [E.out];exact hM7,A.put_grown G5 hP7⟩
              case measure=>simp [intOf]
           ·cases e3:((F:Int)==56*(n:Int)+(f:Int))
            ·rcases HKB.out with hk|⟨kn,hk64,hk⟩
             ·have dK:decide (K<0)=true:=by rw [hk];rfl
              clear hk
              have E:=hid (show A.ri Q ((F:Int),g,p,d,ca) t n (0+1)=upd q1 (79+n*2) (-1) by rw [HRI.out];unfold A.rights1;rw [if_pos (by rw [HG.out,e1,e2,e3,dK];simp),show 79+2*n+0=79+n*2 by omega])
              have HdK:=hid dK
              clear dK
              have hwn:=A.w_i n hn64
              have hw56:=A.w_56 n hn64
              have hwF:=A.w_i F hF
              have hwf:=A.w_i f hf64
              have hws:=A.w_s n f _ rfl hs64n
              go_upto_region 12 with fail
              clear hw56 hwF hwf hws
              have dK:=HdK.out
              have hw7:=A.w_7 n hn64
              refine rB ?_
              repeat(go_big_quiet_step (first
               |(go_at_call 126;exact zd (HMk _))))
              refine wpQuiet_nil ?_
              intro w5 hb5
              clear hwn hw7
              have hM5:=HMi.below hb5
              have G5:=A.below_step HGi hb5
              clear hb5 h181 h179 h176 hbl hbs
              go_wp2_with ((with_reducible refine zg rfl _ _ _ rfl ?_);refine⟨b,79+n*2,q1,c,_,t,-1,.i8,rfl,rfl,om,A.pk_r om,kr,hM5,?_⟩;intro w7 hP7 hM7)
              go_roundw
              case rel=>exact⟨0+1,by omega,by go_num,by rw [E.out];exact hM7,A.put_grown G5 hP7⟩
              case measure=>simp [intOf]
             ·have dK:decide (K<0)=false:=by rw [hk];simp
              obtain⟨kq,hkq⟩:∃kq:Nat,kq=kn/8:=⟨_,rfl⟩
              have hkq8:K/8=(kq:Int):=by rw [hk];omega
              have HKQ64:=hid (show kq<64 by omega)
              have hg:=HG.out
              rw [hkq8]at hg
              replace HG:=hid hg
              have HKQ:=hid (show K.tdiv 8=(kq:Int) by rw [hk];exact A.k_q kn kq hkq)
              clear hkq8 hg hkq hk hk64
              cases n1:((kq:Int) !=7*(n:Int))
              ·cases n2:(q1 (1+(56*n+f)) !=P.make (n:Int) 4)
               ·have E:=hid (show A.ri Q ((F:Int),g,p,d,ca) t n (0+1)=q1 by rw [HRI.out];unfold A.rights1;rw [if_neg (by rw [HG.out,e1,e2,e3,dK,n1,n2];simp)])
                have HdK:=hid dK
                have Hn1:=hid n1
                have Hn2:=hid n2
                clear dK n1 n2
                have hwn:=A.w_i n hn64
                have hw56:=A.w_56 n hn64
                have hwF:=A.w_i F hF
                have hwf:=A.w_i f hf64
                have hws:=A.w_s n f _ rfl hs64n
                go_upto_region 12 with fail
                clear hw56 hwF hwf hws
                have dK:=HdK.out
                have n1:=Hn1.out
                have n2:=Hn2.out
                have hw7:=A.w_7 n hn64
                have hkd:=HKQ.out
                have hwd:=A.w_64 kq HKQ64.out
                refine rB ?_
                repeat(go_big_quiet_step (first
                 |(go_at_call 126;exact zd (HMk _))))
                refine wpQuiet_nil ?_
                intro w5 hb5
                clear hwn hw7 hkd hwd
                have hM5:=HMi.below hb5
                have G5:=A.below_step HGi hb5
                clear hb5 h181 h179 h176 hbl hbs
                go_wp2
                go_roundw
                case rel=>exact⟨0+1,by omega,by go_num,by rw [E.out];exact hM5,G5⟩
                case measure=>simp [intOf]
               ·have E:=hid (show A.ri Q ((F:Int),g,p,d,ca) t n (0+1)=upd q1 (79+n*2) (-1) by rw [HRI.out];unfold A.rights1;rw [if_pos (by rw [HG.out,e1,e2,e3,dK,n1,n2];simp),show 79+2*n+0=79+n*2 by omega])
                have HdK:=hid dK
                have Hn1:=hid n1
                have Hn2:=hid n2
                clear dK n1 n2
                have hwn:=A.w_i n hn64
                have hw56:=A.w_56 n hn64
                have hwF:=A.w_i F hF
                have hwf:=A.w_i f hf64
                have hws:=A.w_s n f _ rfl hs64n
                go_upto_region 12 with fail
                clear hw56 hwF hwf hws
                have dK:=HdK.out
                have n1:=Hn1.out
                have n2:=Hn2.out
                have hw7:=A.w_7 n hn64
                have hkd:=HKQ.out
                have hwd:=A.w_64 kq HKQ64.out
                refine rB ?_
                repeat(go_big_quiet_step (first
                 |(go_at_call 126;exact zd (HMk _))))
                refine wpQuiet_nil ?_
                intro w5 hb5
                clear hwn hw7 hkd hwd
                have hM5:=HMi.below hb5
                have G5:=A.below_step HGi hb5
                clear hb5 h181 h179 h176 hbl hbs
                go_wp2_with ((with_reducible refine zg rfl _ _ _ rfl ?_);refine⟨b,79+n*2,q1,c,_,t,-1,.i8,rfl,rfl,om,A.pk_r om,kr,hM5,?_⟩;intro w7 hP7 hM7)
                go_roundw
                case rel=>exact⟨0+1,by omega,by go_num,by rw [E.out];exact hM7,A.put_grown G5 hP7⟩
                case measure=>simp [intOf]
              ·have E:=hid (show A.ri Q ((F:Int),g,p,d,ca) t n (0+1)=upd q1 (79+n*2) (-1) by rw [HRI.out];unfold A.rights1;rw [if_pos (by rw [HG.out,e1,e2,e3,dK,n1];simp),show 79+2*n+0=79+n*2 by omega])
               have HdK:=hid dK
               have Hn1:=hid n1
               clear dK n1
               have hwn:=A.w_i n hn64
               have hw56:=A.w_56 n hn64
               have hwF:=A.w_i F hF
               have hwf:=A.w_i f hf64
               have hws:=A.w_s n f _ rfl hs64n
               go_upto_region 12 with fail
               clear hw56 hwF hwf hws
               have dK:=HdK.out
               have n1:=Hn1.out
               have hw7:=A.w_7 n hn64
               have hkd:=HKQ.out
               have hwd:=A.w_64 kq HKQ64.out
               refine rB ?_
               repeat(go_big_quiet_step (first
                |(go_at_call 126;exact zd (HMk _))))
               refine wpQuiet_nil ?_
               intro w5 hb5
               clear hwn hw7 hkd hwd
               have hM5:=HMi.below hb5
               have G5:=A.below_step HGi hb5
               clear hb5 h181 h179 h176 hbl hbs
               go_wp2_with ((with_reducible refine zg rfl _ _ _ rfl ?_);refine⟨b,79+n*2,q1,c,_,t,-1,.i8,rfl,rfl,om,A.pk_r om,kr,hM5,?_⟩;intro w7 hP7 hM7)
               go_roundw
               case rel=>exact⟨0+1,by omega,by go_num,by rw [E.out];exact hM7,A.put_grown G5 hP7⟩
               case measure=>simp [intOf]
            ·have E:=hid (show A.ri Q ((F:Int),g,p,d,ca) t n (0+1)=upd q1 (79+n*2) (-1) by rw [HRI.out];unfold A.rights1;rw [if_pos (by rw [HG.out,e1,e2,e3];simp),show 79+2*n+0=79+n*2 by omega])
             have hwn:=A.w_i n hn64
             have hw56:=A.w_56 n hn64
             have hwF:=A.w_i F hF
             have hwf:=A.w_i f hf64
             have hws:=A.w_s n f _ rfl hs64n
             go_upto_region 12 with fail
             clear hw56 hwF hwf hws
             have hw7:=A.w_7 n hn64
             refine rB ?_
             repeat(go_big_quiet_step (first
              |(go_at_call 126;exact zd (HMk _))))
             refine wpQuiet_nil ?_
             intro w5 hb5
             clear hwn hw7
             have hM5:=HMi.below hb5
             have G5:=A.below_step HGi hb5
             clear hb5 h181 h179 h176 hbl hbs
             go_wp2_with ((with_reducible refine zg rfl _ _ _ rfl ?_);refine⟨b,79+n*2,q1,c,_,t,-1,.i8,rfl,rfl,om,A.pk_r om,kr,hM5,?_⟩;intro w7 hP7 hM7)
             go_roundw
             case rel=>exact⟨0+1,by omega,by go_num,by rw [E.out];exact hM7,A.put_grown G5 hP7⟩
             case measure=>simp [intOf]
          ·have E:=hid (show A.ri Q ((F:Int),g,p,d,ca) t n (0+1)=upd q1 (79+n*2) (-1) by rw [HRI.out];unfold A.rights1;rw [if_pos (by rw [HG.out,e1];simp),show 79+2*n+0=79+n*2 by omega])
           have hwn:=A.w_i n hn64
           have hw56:=A.w_56 n hn64
           have hwF:=A.w_i F hF
           have hwf:=A.w_i f hf64
           have hws:=A.w_s n f _ rfl hs64n
           go_upto_region 12 with fail
           clear hw56 hwF hwf hws
           have hw7:=A.w_7 n hn64
           refine rB ?_
           repeat(go_big_quiet_step (first
            |(go_at_call 126;exact zd (HMk _))))
           refine wpQuiet_nil ?_
           intro w5 hb5
           clear hwn hw7
           have hM5:=HMi.below hb5
           have G5:=A.below_step HGi hb5
           clear hb5 h181 h179 h176 hbl hbs
           go_wp2_with ((with_reducible refine zg rfl _ _ _ rfl ?_);refine⟨b,79+n*2,q1,c,_,t,-1,.i8,rfl,rfl,om,A.pk_r om,kr,hM5,?_⟩;intro w7 hP7 hM7)
           go_roundw
           case rel=>exact⟨0+1,by omega,by go_num,by rw [E.out];exact hM7,A.put_grown G5 hP7⟩
           case measure=>simp [intOf]
         ·have rn:decide (r0≤7)=false:=by simp at l7⊢;omega
          have E:=hid (show A.ri Q ((F:Int),g,p,d,ca) t n (0+1)=q1 by rw [HRI.out];unfold A.rights1;rw [if_neg (by rw [HG.out,rn];simp)])
          go_wp2
          go_roundw
          case rel=>exact⟨0+1,by omega,by go_num,by rw [E.out];exact HMi.out,HGi⟩
          case measure=>simp [intOf]
        ·have rn:decide (0≤r0)=false:=by simp at l0⊢;omega
         have E:=hid (show A.ri Q ((F:Int),g,p,d,ca) t n (0+1)=q1 by rw [HRI.out];unfold A.rights1;rw [if_neg (by rw [HG.out,rn];simp)])
         go_wp2
         go_roundw
         case rel=>exact⟨0+1,by omega,by go_num,by rw [E.out];exact HMi.out,HGi⟩
         case measure=>simp [intOf]
       ·have HG:=hid (HGE r1 (hf1.trans Hr.2))
        have hix:=A.idx2_1 r0 r1
        clear hf1
        cases l0:decide (r1<0)
        ·cases l7:decide (7<r1)
         ·have r0':0≤r1:=by simpa using l0
          have r7':r1≤7:=by simpa using l7
          obtain⟨f,rfl⟩:∃f:Nat,r1=(f:Int):=⟨r1.toNat,by omega⟩
          have hs64:56*(n:Int)+(f:Int)<64:=by omega
          have hs64n:56*n+f<64:=by omega
          have hse:(56*(n:Int)+(f:Int)).toNat=56*n+f:=by omega
          have hg:=HG.out
          rw [hse,decide_eq_true r0',decide_eq_true r7',Bool.true_and,Bool.true_and]at hg
          replace HG:=hid hg
          have hf64:f<64:=by omega
          have hbs:=HBD (56*n+f) hs64n
          clear hse hg r0' r7'
          cases e1:(t==56*(n:Int)+(f:Int))
          ·cases e2:(d==0)
           ·rcases HKB.out with hk|⟨kn,hk64,hk⟩
            ·have dK:decide (K<0)=true:=by rw [hk];rfl
             clear hk
             have E:=hid (show A.ri Q ((F:Int),g,p,d,ca) t n (1+1)=upd q1 (79+n*2+1) (-1) by rw [HRI.out];unfold A.rights1;rw [if_pos (by rw [HG.out,e1,e2,dK];simp),show 79+2*n+1=79+n*2+1 by omega])
             have HdK:=hid dK
             clear dK
             have hwn:=A.w_i n hn64
             have hw56:=A.w_56 n hn64
             have hwF:=A.w_i F hF
             have hwf:=A.w_i f hf64
             have hws:=A.w_s n f _ rfl hs64n
             go_upto_region 12 with fail
             clear hw56 hwF hwf hws
             have dK:=HdK.out
             have hw7:=A.w_7 n hn64
             refine rB ?_
             repeat(go_big_quiet_step (first
              |(go_at_call 126;exact zd (HMk _))))
             refine wpQuiet_nil ?_
             intro w5 hb5
             clear hwn hw7
             have hM5:=HMi.below hb5
             have G5:=A.below_step HGi hb5
             clear hb5 h181 h179 h176 hbl hbs
             go_wp2_with ((with_reducible refine zg rfl _ _ _ rfl ?_);refine⟨b,79+n*2+1,q1,c,_,t,-1,.i8,rfl,rfl,om,A.pk_r om,kr,hM5,?_⟩;intro w7 hP7 hM7)
             go_roundw
             case rel=>exact⟨1+1,by omega,by go_num,by rw [E.out];exact hM7,A.put_grown G5 hP7⟩
             case measure=>simp [intOf]
            ·have dK:decide (K<0)=false:=by rw [hk];simp
             obtain⟨kq,hkq⟩:∃kq:Nat,kq=kn/8:=⟨_,rfl⟩
             have hkq8:K/8=(kq:Int):=by rw [hk];omega
             have HKQ64:=hid (show kq<64 by omega)
             have hg:=HG.out
             rw [hkq8]at hg
             replace HG:=hid hg
             have HKQ:=hid (show K.tdiv 8=(kq:Int) by rw [hk];exact A.k_q kn kq hkq)
             clear hkq8 hg hkq hk hk64
             cases n1:((kq:Int) !=7*(n:Int))
             ·cases n2:(q1 (1+(56*n+f)) !=P.make (n:Int) 4)
              ·have E:=hid (show A.ri Q ((F:Int),g,p,d,ca) t n (1+1)=q1 by rw [HRI.out];unfold A.rights1;rw [if_neg (by rw [HG.out,e1,e2,dK,n1,n2];simp)])
               have HdK:=hid dK
               have Hn1:=hid n1
               have Hn2:=hid n2
               clear dK n1 n2
               have hwn:=A.w_i n hn64
               have hw56:=A.w_56 n hn64
               have hwF:=A.w_i F hF
               have hwf:=A.w_i f hf64
               have hws:=A.w_s n f _ rfl hs64n
               go_upto_region 12 with fail
               clear hw56 hwF hwf hws
               have dK:=HdK.out
               have n1:=Hn1.out
               have n2:=Hn2.out
               have hw7:=A.w_7 n hn64
               have hkd:=HKQ.out
               have hwd:=A.w_64 kq HKQ64.out
               refine rB ?_
               repeat(go_big_quiet_step (first
                |(go_at_call 126;exact zd (HMk _))))
               refine wpQuiet_nil ?_
               intro w5 hb5
               clear hwn hw7 hkd hwd
               have hM5:=HMi.below hb5
               have G5:=A.below_step HGi hb5
               clear hb5 h181 h179 h176 hbl hbs
               go_wp2
               go_roundw
               case rel=>exact⟨1+1,by omega,by go_num,by rw [E.out];exact hM5,G5⟩
               case measure=>simp [intOf]
              ·have E:=hid (show A.ri Q ((F:Int),g,p,d,ca) t n (1+1)=upd q1 (79+n*2+1) (-1) by rw [HRI.out];unfold A.rights1;rw [if_pos (by rw [HG.out,e1,e2,dK,n1,n2];simp),show 79+2*n+1=79+n*2+1 by omega])
               have HdK:=hid dK
               have Hn1:=hid n1
               have Hn2:=hid n2
               clear dK n1 n2
               have hwn:=A.w_i n hn64
               have hw56:=A.w_56 n hn64
               have hwF:=A.w_i F hF
               have hwf:=A.w_i f hf64
               have hws:=A.w_s n f _ rfl hs64n
               go_upto_region 12 with fail
               clear hw56 hwF hwf hws
               have dK:=HdK.out
               have n1:=Hn1.out
               have n2:=Hn2.out
               have hw7:=A.w_7 n hn64
               have hkd:=HKQ.out
               have hwd:=A.w_64 kq HKQ64.out
               refine rB ?_
               repeat(go_big_quiet_step (first
                |(go_at_call 126;exact zd (HMk _))))
               refine wpQuiet_nil ?_
               intro w5 hb5
               clear hwn hw7 hkd hwd
               have hM5:=HMi.below hb5
               have G5:=A.below_step HGi hb5
               clear hb5 h181 h179 h176 hbl hbs
               go_wp2_with ((with_reducible refine zg rfl _ _ _ rfl ?_);refine⟨b,79+n*2+1,q1,c,_,t,-1,.i8,rfl,rfl,om,A.pk_r om,kr,hM5,?_⟩;intro w7 hP7 hM7)
               go_roundw
               case rel=>exact⟨1+1,by omega,by go_num,by rw [E.out];exact hM7,A.put_grown G5 hP7⟩
               case measure=>simp [intOf]
             ·have E:=hid (show A.ri Q ((F:Int),g,p,d,ca) t n (1+1)=upd q1 (79+n*2+1) (-1) by rw [HRI.out];unfold A.rights1;rw [if_pos (by rw [HG.out,e1,e2,dK,n1];simp),show 79+2*n+1=79+n*2+1 by omega])
              have HdK:=hid dK
              have Hn1:=hid n1
              clear dK n1
              have hwn:=A.w_i n hn64
              have hw56:=A.w_56 n hn64
              have hwF:=A.w_i F hF
              have hwf:=A.w_i f hf64
              have hws:=A.w_s n f _ rfl hs64n
              go_upto_region 12 with fail
              clear hw56 hwF hwf hws
              have dK:=HdK.out
              have n1:=Hn1.out
              have hw7:=A.w_7 n hn64
              have hkd:=HKQ.out
              have hwd:=A.w_64 kq HKQ64.out
              refine rB ?_
              repeat(go_big_quiet_step (first
               |(go_at_call 126;exact zd (HMk _))))
              refine wpQuiet_nil ?_
              intro w5 hb5
              clear hwn hw7 hkd hwd
              have hM5:=HMi.below hb5
              have G5:=A.below_step HGi hb5
              clear hb5 h181 h179 h176 hbl hbs
              go_wp2_with ((with_reducible refine zg rfl _ _ _ rfl ?_);refine⟨b,79+n*2+1,q1,c,_,t,-1,.i8,rfl,rfl,om,A.pk_r om,kr,hM5,?_⟩;intro w7 hP7 hM7)
              go_roundw
              case rel=>exact⟨1+1,by omega,by go_num,by rw [E.out];exact hM7,A.put_grown G5 hP7⟩
              case measure=>simp [intOf]
           ·cases e3:((F:Int)==56*(n:Int)+(f:Int))
            ·rcases HKB.out with hk|⟨kn,hk64,hk⟩
             ·have dK:decide (K<0)=true:=by rw [hk];rfl
              clear hk
              have E:=hid (show A.ri Q ((F:Int),g,p,d,ca) t n (1+1)=upd q1 (79+n*2+1) (-1) by rw [HRI.out];unfold A.rights1;rw [if_pos (by rw [HG.out,e1,e2,e3,dK];simp),show 79+2*n+1=79+n*2+1 by omega])
              have HdK:=hid dK
              clear dK
              have hwn:=A.w_i n hn64
              have hw56:=A.w_56 n hn64
              have hwF:=A.w_i F hF
              have hwf:=A.w_i f hf64
              have hws:=A.w_s n f _ rfl hs64n
              go_upto_region 12 with fail
              clear hw56 hwF hwf hws
              have dK:=HdK.out
              have hw7:=A.w_7 n hn64
              refine rB ?_
              repeat(go_big_quiet_step (first
               |(go_at_call 126;exact zd (HMk _))))
              refine wpQuiet_nil ?_
              intro w5 hb5
              clear hwn hw7
              have hM5:=HMi.below hb5
              have G5:=A.below_step HGi hb5
              clear hb5 h181 h179 h176 hbl hbs
              go_wp2_with ((with_reducible refine zg rfl _ _ _ rfl ?_);refine⟨b,79+n*2+1,q1,c,_,t,-1,.i8,rfl,rfl,om,A.pk_r om,kr,hM5,?_⟩;intro w7 hP7 hM7)
              go_roundw
              case rel=>exact⟨1+1,by omega,by go_num,by rw [E.out];exact hM7,A.put_grown G5 hP7⟩
              case measure=>simp [intOf]
             ·have dK:decide (K<0)=false:=by rw [hk];simp
              obtain⟨kq,hkq⟩:∃kq:Nat,kq=kn/8:=⟨_,rfl⟩
              have hkq8:K/8=(kq:Int):=by rw [hk];omega
              have HKQ64:=hid (show kq<64 by omega)
              have hg:=HG.out
              rw [hkq8]at hg
              replace HG:=hid hg
              have HKQ:=hid (show K.tdiv 8=(kq:Int) by rw [hk];exact A.k_q kn kq hkq)
              clear hkq8 hg hkq hk hk64
              cases n1:((kq:Int) !=7*(n:Int))
              ·cases n2:(q1 (1+(56*n+f)) !=P.make (n:Int) 4)
               ·have E:=hid (show A.ri Q ((F:Int),g,p,d,ca) t n (1+1)=q1 by rw [HRI.out];unfold A.rights1;rw [if_neg (by rw [HG.out,e1,e2,e3,dK,n1,n2];simp)])
                have HdK:=hid dK
                have Hn1:=hid n1
                have Hn2:=hid n2
                clear dK n1 n2
                have hwn:=A.w_i n hn64
                have hw56:=A.w_56 n hn64
                have hwF:=A.w_i F hF
                have hwf:=A.w_i f hf64
                have hws:=A.w_s n f _ rfl hs64n
                go_upto_region 12 with fail
                clear hw56 hwF hwf hws
                have dK:=HdK.out
                have n1:=Hn1.out
                have n2:=Hn2.out
                have hw7:=A.w_7 n hn64
                have hkd:=HKQ.out
                have hwd:=A.w_64 kq HKQ64.out
                refine rB ?_
                repeat(go_big_quiet_step (first
                 |(go_at_call 126;exact zd (HMk _))))
                refine wpQuiet_nil ?_
                intro w5 hb5
                clear hwn hw7 hkd hwd
                have hM5:=HMi.below hb5
                have G5:=A.below_step HGi hb5
                clear hb5 h181 h179 h176 hbl hbs
                go_wp2
                go_roundw
                case rel=>exact⟨1+1,by omega,by go_num,by rw [E.out];exact hM5,G5⟩
                case measure=>simp [intOf]
               ·have E:=hid (show A.ri Q ((F:Int),g,p,d,ca) t n (1+1)=upd q1 (79+n*2+1) (-1) by rw [HRI.out];unfold A.rights1;rw [if_pos (by rw [HG.out,e1,e2,e3,dK,n1,n2];simp),show 79+2*n+1=79+n*2+1 by omega])
                have HdK:=hid dK
                have Hn1:=hid n1
                have Hn2:=hid n2
                clear dK n1 n2
                have hwn:=A.w_i n hn64
                have hw56:=A.w_56 n hn64
                have hwF:=A.w_i F hF
                have hwf:=A.w_i f hf64
                have hws:=A.w_s n f _ rfl hs64n
                go_upto_region 12 with fail
                clear hw56 hwF hwf hws
                have dK:=HdK.out
                have n1:=Hn1.out
                have n2:=Hn2.out
                have hw7:=A.w_7 n hn64
                have hkd:=HKQ.out
                have hwd:=A.w_64 kq HKQ64.out
                refine rB ?_
                repeat(go_big_quiet_step (first
                 |(go_at_call 126;exact zd (HMk _))))
                refine wpQuiet_nil ?_
                intro w5 hb5
                clear hwn hw7 hkd hwd
                have hM5:=HMi.below hb5
                have G5:=A.below_step HGi hb5
                clear hb5 h181 h179 h176 hbl hbs
                go_wp2_with ((with_reducible refine zg rfl _ _ _ rfl ?_);refine⟨b,79+n*2+1,q1,c,_,t,-1,.i8,rfl,rfl,om,A.pk_r om,kr,hM5,?_⟩;intro w7 hP7 hM7)
                go_roundw
                case rel=>exact⟨1+1,by omega,by go_num,by rw [E.out];exact hM7,A.put_grown G5 hP7⟩
                case measure=>simp [intOf]
              ·have E:=hid (show A.ri Q ((F:Int),g,p,d,ca) t n (1+1)=upd q1 (79+n*2+1) (-1) by rw [HRI.out];unfold A.rights1;rw [if_pos (by rw [HG.out,e1,e2,e3,dK,n1];simp),show 79+2*n+1=79+n*2+1 by omega])
               have HdK:=hid dK
               have Hn1:=hid n1
               clear dK n1
               have hwn:=A.w_i n hn64
               have hw56:=A.w_56 n hn64
               have hwF:=A.w_i F hF
               have hwf:=A.w_i f hf64
               have hws:=A.w_s n f _ rfl hs64n
               go_upto_region 12 with fail
               clear hw56 hwF hwf hws
               have dK:=HdK.out
               have n1:=Hn1.out
               have hw7:=A.w_7 n hn64
               have hkd:=HKQ.out
               have hwd:=A.w_64 kq HKQ64.out
               refine rB ?_
               repeat(go_big_quiet_step (first
                |(go_at_call 126;exact zd (HMk _))))
               refine wpQuiet_nil ?_
               intro w5 hb5
               clear hwn hw7 hkd hwd
               have hM5:=HMi.below hb5
               have G5:=A.below_step HGi hb5
               clear hb5 h181 h179 h176 hbl hbs
               go_wp2_with ((with_reducible refine zg rfl _ _ _ rfl ?_);refine⟨b,79+n*2+1,q1,c,_,t,-1,.i8,rfl,rfl,om,A.pk_r om,kr,hM5,?_⟩;intro w7 hP7 hM7)
               go_roundw
               case rel=>exact⟨1+1,by omega,by go_num,by rw [E.out];exact hM7,A.put_grown G5 hP7⟩
               case measure=>simp [intOf]
            ·have E:=hid (show A.ri Q ((F:Int),g,p,d,ca) t n (1+1)=upd q1 (79+n*2+1) (-1) by rw [HRI.out];unfold A.rights1;rw [if_pos (by rw [HG.out,e1,e2,e3];simp),show 79+2*n+1=79+n*2+1 by omega])
             have hwn:=A.w_i n hn64
             have hw56:=A.w_56 n hn64
             have hwF:=A.w_i F hF
             have hwf:=A.w_i f hf64
             have hws:=A.w_s n f _ rfl hs64n
             go_upto_region 12 with fail
             clear hw56 hwF hwf hws
             have hw7:=A.w_7 n hn64
             refine rB ?_
             repeat(go_big_quiet_step (first
              |(go_at_call 126;exact zd (HMk _))))
             refine wpQuiet_nil ?_
             intro w5 hb5
             clear hwn hw7
             have hM5:=HMi.below hb5
             have G5:=A.below_step HGi hb5
             clear hb5 h181 h179 h176 hbl hbs
             go_wp2_with ((with_reducible refine zg rfl _ _ _ rfl ?_);refine⟨b,79+n*2+1,q1,c,_,t,-1,.i8,rfl,rfl,om,A.pk_r om,kr,hM5,?_⟩;intro w7 hP7 hM7)
             go_roundw
             case rel=>exact⟨1+1,by omega,by go_num,by rw [E.out];exact hM7,A.put_grown G5 hP7⟩
             case measure=>simp [intOf]
          ·have E:=hid (show A.ri Q ((F:Int),g,p,d,ca) t n (1+1)=upd q1 (79+n*2+1) (-1) by rw [HRI.out];unfold A.rights1;rw [if_pos (by rw [HG.out,e1];simp),show 79+2*n+1=79+n*2+1 by omega])
           have hwn:=A.w_i n hn64
           have hw56:=A.w_56 n hn64
           have hwF:=A.w_i F hF
           have hwf:=A.w_i f hf64
           have hws:=A.w_s n f _ rfl hs64n
           go_upto_region 12 with fail
           clear hw56 hwF hwf hws
           have hw7:=A.w_7 n hn64
           refine rB ?_
           repeat(go_big_quiet_step (first
            |(go_at_call 126;exact zd (HMk _))))
           refine wpQuiet_nil ?_
           intro w5 hb5
           clear hwn hw7
           have hM5:=HMi.below hb5
           have G5:=A.below_step HGi hb5
           clear hb5 h181 h179 h176 hbl hbs
           go_wp2_with ((with_reducible refine zg rfl _ _ _ rfl ?_);refine⟨b,79+n*2+1,q1,c,_,t,-1,.i8,rfl,rfl,om,A.pk_r om,kr,hM5,?_⟩;intro w7 hP7 hM7)
           go_roundw
           case rel=>exact⟨1+1,by omega,by go_num,by rw [E.out];exact hM7,A.put_grown G5 hP7⟩
           case measure=>simp [intOf]
         ·have rn:decide (r1≤7)=false:=by simp at l7⊢;omega
          have E:=hid (show A.ri Q ((F:Int),g,p,d,ca) t n (1+1)=q1 by rw [HRI.out];unfold A.rights1;rw [if_neg (by rw [HG.out,rn];simp)])
          go_wp2
          go_roundw
          case rel=>exact⟨1+1,by omega,by go_num,by rw [E.out];exact HMi.out,HGi⟩
          case measure=>simp [intOf]
        ·have rn:decide (0≤r1)=false:=by simp at l0⊢;omega
         have E:=hid (show A.ri Q ((F:Int),g,p,d,ca) t n (1+1)=q1 by rw [HRI.out];unfold A.rights1;rw [if_neg (by rw [HG.out,rn];simp)])
         go_wp2
         go_roundw
         case rel=>exact⟨1+1,by omega,by go_num,by rw [E.out];exact HMi.out,HGi⟩
         case measure=>simp [intOf]
      ·obtain rfl:i=2:=by omega
       have HMi:=hid hMi
       have HGi:=hid Gi
       clear hMi Gi hi
       go_wp2
       go_roundw
       case rel=>exact⟨n+1,by omega,by go_num,by rw [HQ.out];exact HMi.out,HGi⟩
       case measure=>simp [intOf];omega
    ·obtain rfl:n=2:=by omega
     go_wp2
     first|refine bodyPost_end (results_none rfl _ _ _) rfl ?_|refine bodyPost_ret (results_none rfl _ _ _) rfl ?_
     exact⟨rfl,⟨by rw [ER.out];exact hMr,Gr⟩⟩
end Go.Proofs.YtbakeajgolhkgaaGreatDoor
