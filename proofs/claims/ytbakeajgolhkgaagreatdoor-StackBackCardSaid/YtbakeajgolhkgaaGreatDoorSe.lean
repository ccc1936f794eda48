import Derived.Test.YtbakeajgolhkgaaGreatDoorSd
import Derived.Test.YtbakeajgolhkgaaGreatDoorZl
set_option maxRecDepth 100000
set_option maxHeartbeats 8000000
open Go.Lib (hid)
namespace Go.Proofs.YtbakeajgolhkgaaGreatDoor
open Go.Proofs.Tryz
open Go.RowKit Go.Sort
attribute [local go_sem] Oper.semAt_some
theorem Sk.exec_ixu{ev:Operand→Value}{o:Oper}(x y:Operand){b n cap m:Nat}(ho:o.op= .indexAddr 84 x y)(hx:ev x= .slice (some ⟨b,0,none⟩) n cap)(hy:ev y= .int .i64 (m:Int))(w:World)(hm:m<n):(execOp ev o).run prog w= .ok (.value (.pointer (some ⟨b,m,none⟩))) w:=by
 unfold execOp
 simp only [ho,hx,hy]
 have e1:(0:Int)≤(m:Int):=by omega
 have e2:(m:Int)<(n:Int):=by omega
 simp [go_sem,e1,e2]
theorem Sk.exec_sub{ev:Operand→Value}{o:Oper}(x y:Operand){a b:Int}(ho:o.op= .binOp .sub 3 x y 3)(hx:ev x= .int .i64 a)(hy:ev y= .int .i64 b)(w:World):(execOp ev o).run prog w= .ok (.value (.int .i64 (wrap64 (a-b)))) w:=by
 unfold execOp
 simp only [ho,hx,hy]
 simp [go_sem]
 simp only [IntKind.wrap_i64,wrap64]
structure Sk.Rb (w:World) (ba bk:Nat) (A B:Array Value) (W:World):Prop where
 a:RowAt W ba 31 A
 k:RowAt W bk 23 B
 b:Below w.heap.size w W
theorem Sk.Rb.kg{w:World}{ba bk:Nat}{A B:Array Value}{W W':World}(h:Sk.Rb w ba bk A B W)(k:Sk.Kg w.heap.size W W'):Sk.Rb w ba bk A B W':=
 ⟨⟨k.block h.a.heap dc dc⟩,⟨k.block h.k.heap dc dc⟩,Sk.Kg.next h.b k (Nat.le_refl _)⟩
theorem Sk.Rb.below{w:World}{ba bk:Nat}{A B:Array Value}{W W':World}(h:Sk.Rb w ba bk A B W)(k:Below W.heap.size W W'):Sk.Rb w ba bk A B W':=h.kg (Sk.Kg.of_below _ k)
theorem Sk.row_range{w W:World}{b o:Nat}{T:TypeId}{A:Array Value}{cs:List Value}(h6:RowAt w b T A)(h:RowAt W b T A)(hr:w.rangeAt b o cs):W.rangeAt b o cs:=fun j v hj=>by
 rw [h.cell,←h6.cell]
 exact hr j v hj
def Sk.cutV(ao:Option Addr)(cap m k:Nat):Value:= .slice (if cap=m then ao else ao.map (·.add m)) (k-m) (cap-m)
theorem Sk.exec_cut{ops:Operand→Value}{o:Oper}(p q r:Operand){ao:Option Addr}{N cap m k:Nat}(ho:o.op= .slice 78 p (some q) (some r) none)(hp:ops p= .slice ao N cap)(hq:ops q= .int .i64 (m:Int))(hr:ops r= .int .i64 (k:Int))(h1:m≤k)(h2:k≤cap)(w9:World):(execOp ops o).run prog w9= .ok (.value (Sk.cutV ao cap m k)) w9:=by
 unfold execOp
 simp only [ho,hp,hq,hr,Option.map_some,Option.map_none]
 have e1:(m:Int)≤(k:Int):=by omega
 have e2:(k:Int)≤(cap:Int):=by omega
 simp [go_sem,e1,e2,Sk.cutV]
theorem Sk.Ints.cut{B:Nat}{w:World}{ao:Option Addr}{N cap:Nat}{x:Nat→Int}(h:Sk.Ints B w (.slice ao N cap) N x)(m k:Nat)(h1:m≤k)(h2:k≤N):Sk.Ints B w (Sk.cutV ao cap m k) (k-m) (fun i=>x (m+i)):=by
 obtain⟨ao',cap',e,hc,hm,hz,hx⟩:=h
 cases e
 refine⟨_,_,rfl,by omega,by omega,fun e=> ?_,fun h0=> ?_⟩
 ·split at e
  ·omega
  ·cases ao with
   |none=>have:=hz rfl;omega
   |some a=>cases e
 ·obtain⟨b,off,rfl,hB,hcell⟩:=hx om
  rw [if_neg om]
  refine⟨b,off+m,by rw [Option.map_some,Addr.add_lit],hB,fun i hi=> ?_⟩
  rw [Nat.add_assoc]
  exact hcell (m+i) om
theorem Sk.wpl_cut{ops:Array Oper}{rest:List Oper}{o:Oper}{a:Act}{w:World}{Q:Exit→Act→World→Prop}(hgd:o.guard=none)(p q r:Operand)(ho:o.op= .slice 78 p (some q) (some r) none)
  (h:∃ao N cap m k,a.eval p= .slice ao N cap∧a.eval q= .int .i64 ((m:Nat):Int)∧a.eval r= .int .i64 ((k:Nat):Int)∧m≤k∧k≤cap∧wpList prog ops Q rest (a.put o.dst (Sk.cutV ao cap m k)) w):wpList prog ops Q (o::rest) a w:=by
 obtain⟨ao,N,cap,m,k,h1,h2,h3,h4,h5,h⟩:=h
 refine wpList_plain hgd fun K hK=> ?_
 unfold Oper.wp
 rw [Sk.exec_cut p q r ho h1 h2 h3 h4 h5 w]
 exact hK _ _ h
theorem Sk.again{base:Nat}{w0 w1 w2:World}{g:Nat}{c:Nat→Int}{x:Nat→Int}{k m k':Nat}{s' s'':Sk.St}(h:Sk.Ply base w0 w1 g (Sk.st0 c) 0 x k s')(hm:m≤k)(hk:k'≤k-m)(hc:k'<k-m→Sk.can (s'.pos m) (fun i=>x (m+i)) k'=false){w3:World}(h2:Sk.Ply base w2 w3 g s' m (fun i=>x (m+i)) k' s''):
  k'=k-m∧Sk.At base w3 g s'' k∧∀i,i≤k→s''.pos i=s'.pos i:=by
 have e0:∀i,i≤k→s'.pos i=Sk.run c x i:=fun i hi=>by have:=h.new i hi;rwa [Nat.zero_add]at this
 have hk':k'=k-m:=by
  by_cases hlt:k'<k-m
  ·have h1:=hc hlt
   rw [e0 m hm,Sk.can_add]at h1
   have h3:=h.may (m+k') om
   have h3:Sk.can c x (m+k')=true:=h3
   rw [h1]at h3
   cases h3
  ·omega
 subst hk'
 refine⟨rfl,?_,fun i hi=> ?_⟩
 ·have:=h2.at'
  rwa [show m+(k-m)=k by omega]at this
 ·by_cases him:i≤m
  ·exact h2.old i him
  ·have h3:=h2.new (i-m) om
   rw [show m+(i-m)=i by omega,e0 m hm,Sk.run_add,show m+(i-m)=i by omega]at h3
   rw [h3,e0 i hi]
theorem stackBack_walk(c:Nat→Int)(N:Nat)(x:Nat→Int)(v:Value)(bk0:Int)(w:World)(hc:PosOk c)(hv:Sk.Ints w.heap.size w v N x)(hT:Tb w):
  cB 8 #[.agg (posC c),v,.int .i64 bk0] w (.bool true):=by
 have hp0:=PosAt.new w c
 have hb0:Below w.heap.size w (w.alloc (.cells (posC c) 31)):=bA
 have HT:Hid (∀W,Below w.heap.size w W→Tb W):=hid (fun W hb=>zi hT hb)
 have HAw:Hid (∀W,Below w.heap.size w W→cB 35 #[] W (.bool true)):=hid (fun W hb=>zd5 W (HT W hb))
 have HNw:Hid (∀W,Below w.heap.size w W→Calls prog 12 #[.agg (posC c)] W fun e w'=>∃g,e= .returned (.pointer (some ⟨g,0,none⟩))∧Sk.At w.heap.size w' g (Sk.st0 c) 0∧Below W.heap.size W w'):=hid (fun W h=>zhX w.heap.size c W hc h.size)
 have HPl:N≤20→Hid (∀g W,Below w.heap.size w W→Sk.At w.heap.size W g (Sk.st0 c) 0→Calls prog 36 #[.pointer (some ⟨g,0,none⟩),v] W (Sk.PlayEnd w.heap.size g (Sk.st0 c) 0 x N W)):=fun h20=>hid (fun g W hb h=>play_any w.heap.size W g (Sk.st0 c) 0 N x v h (hv.below hb) om (fun W' h'=>HT W' (hb.trans h')) hb.size)
 obtain⟨ao,cap,rfl,hcp⟩:∃ao cap,v= .slice ao N cap∧N≤cap:=by obtain⟨ao,cap,h1,h2,_⟩:=hv;exact⟨ao,cap,h1,h2⟩
 have HV:=hid hv
 clear hT hc hv
 by_cases h20:20<N
 ·have d1:decide ((20:Int)<(N:Int))=true:=by simp;omega
  clear HPl
  go_enter func8,ntmps8
  go_wp2_with (first
   |(go_at_call 35;(with_reducible refine(HAw.out _ hb0).mono ?_);rintro e w1 ⟨rfl,hb⟩;have B1:=hid (za hb0 hb);clear hb))
  go_ret
  exact⟨rfl,B1⟩
 have d1:decide ((20:Int)<(N:Int))=false:=by simp;omega
 replace HPl:=HPl om
 have HN:=hid (show N≤20 by omega)
 clear h20
 go_enter func8,ntmps8
 go_upto_region 7 with(first
  |(go_at_call 35;(with_reducible refine(HAw.out _ hb0).mono ?_);rintro e w1 ⟨rfl,hb⟩;have B1:=hid (za hb0 hb);have Q1:=hid (hp0.below hb);clear hb)
  |((with_reducible refine ze rfl _ rfl ?_);refine⟨_,c,rfl,Q1,?_⟩)
  |(go_at_call 12;(with_reducible refine(HNw.out _ B1.out).mono ?_);rintro e w2 ⟨g,rfl,hg,hb⟩;have B2:=hid (za B1 hb);have G2:=hid hg;clear hb hg)
  |(go_at_call 36;(with_reducible refine(HPl.out g _ B2.out G2.out).mono ?_);rintro e w3 ⟨k,s',rfl,hk,hcan,hply⟩;have B3:=hid (Sk.Kg.next B2 hply.kg (Nat.le_refl _));have HPy:=hid hply;have HK:=hid (show k≤20 by have:=HN.out;omega);have HkN:=hid hk;clear hply hk))
 clear B1 B2 Q1 G2 HPl HNw HAw hp0 hb0
 have A3:=hid HPy.at0
 have HOk:=hid (fun i (hi:i≤k)=>A3.ok i hi)
 have hk1:wrap64 ((k:Int)+1)=(k:Int)+1:=by have:=HK.out;simp only [wrap64];omega
 go_upto_region 10 with(first
  |(go_at_call 38;(with_reducible refine(gpositions_any w.heap.size _ g s' k A3.out (by have:=HK.out;omega)).mono ?_);rintro e w4 ⟨v4,rfl,ho,hb⟩;obtain⟨ba,capA,rfl⟩:=ownsRow_succ ho;have O4:=hid ho;have A4:=hid (A3.below hb);have B4:=hid (za B3 hb);clear hb ho)
  |(go_at_call 39;(with_reducible refine(gkeys_any w.heap.size _ g s' k A4.out (by have:=HK.out;omega)).mono ?_);rintro e w5 ⟨v5,rfl,ho,hb⟩;obtain⟨bk,capK,rfl⟩:=ownsRow_succ ho;have K5:=hid ho;have O5:=hid (zq O4 hb);have A5:=hid (A4.below hb);have B5:=hid (za B4 hb);clear hb ho)
  |(go_at_call 21;(with_reducible refine(zhY w.heap.size _ g s' k A5.out).mono ?_);rintro e w6 ⟨rfl,rfl⟩))
 clear hk1
 obtain⟨CA,hrA⟩:=Sk.own_row O5 rfl
 obtain⟨CB,hrB⟩:=Sk.own_row K5 rfl
 have R5:=hid (show Sk.Rb w ba bk CA CB _ from⟨hrA,hrB,B5⟩)
 have R6:=hid R5.out
 clear hrA hrB
 go_wp2
 go_loopw [11] (fun vi wr=>∃i:Nat,i≤k∧vi= .int .i64 (i:Int)∧Hid (Sk.At w.heap.size wr g s' (k-i))∧Hid (Sk.Rb w ba bk CA CB wr)) (fun vi _=>k-(intOf vi).toNat)
 case atStart=>exact⟨0,Nat.zero_le _,rfl,A5,R5⟩
 case round=>
  obtain⟨i,hi,rfl,HA,HR⟩:=hrel
  by_cases hgo:(i:Int)<bk0∧i<k
  ·obtain⟨hib,hik⟩:=hgo
   have d2:decide ((i:Int)<bk0)=true:=by simp;omega
   have d3:decide ((i:Int)<(k:Int))=true:=by simp;omega
   obtain⟨j,hj⟩:∃j,k-i=j+1:=⟨k-i-1,by omega⟩
   have hkj:k-(i+1)=j:=by omega
   have hA:=hid (show wrap64 ((k:Int)-1)=((k-1:Nat):Int) by have:=HK.out;simp only [wrap64];omega)
   have hB:=hid (show wrap64 (((k-1:Nat):Int)-(i:Int))=(j:Int) by have:=HK.out;simp only [wrap64];omega)
   rw [hj]at HA
   have hjk:j<k+1:=by omega
   have hp:=Sk.own_ps O5 hjk
   have hky:=Sk.own_at K5 j _ (Sk.keysA_get s' k j om)
   have HUn:=hid (fun W h=>zcj w.heap.size W g s' (j+1) h (by have:=HK.out;omega))
   have HPq:=hid (fun W h=>zey w.heap.size W g s' j h)
   have HKq:=hid (fun W h=>zc1 w.heap.size W g s' j h (by have:=HK.out;omega))
   have HLq:=hid (fun W h=>(zhY w.heap.size W g s' j h).mono (fun _ W' hh=>(⟨hh.1,hh.2▸Below.refl _ _⟩:_∧Below W.heap.size W W')))
   have HOq:=hid (HOk j om)
   obtain⟨q,hqq⟩:∃q,s'.pos j=q:=⟨_,rfl⟩
   rw [hqq]at hp hky HPq HKq HOq
   obtain⟨ky,hkk⟩:∃y,U (H.key q)=y:=⟨_,rfl⟩
   rw [hkk]at hky HKq
   clear hkk hqq
   have hrA:=hid (show World.rangeAt _ ba (j*88) (posL q)from hp)
   have hrK:=hid ((R6.k.cell j).symm.trans hky)
   have Ra6:=hid R6.a
   clear hp hky
   go_upto_region 13 with fail
   refine wp_region_held (S:=fun W=>Sk.Rb w ba bk CA CB W) kr ?_
   have hS0:Sk.Rb w ba bk CA CB wr.drew:=HR.below (Below.refl _ _).drew
   have hG0:=HA.below (Below.refl _ _).drew
   show wpAnyH _ _ _ _ _ _ _ _ wr.drew
   refine tq 0 57 (.pointer (some ⟨g,0,none⟩)) hS0 ?_
   refine tf 1 (some 58) 14 (#[.pointer (some ⟨g,0,none⟩)]) (.int .i64 0) (fun W=>Sk.At w.heap.size W g s' j∧Sk.Kg w.heap.size wr.drew W) (HUn _ hG0) (fun u1 hR=> ?_)
   have hS1:=hS0.kg hR.2
   have hG1:=hR.1
   clear hR
   refine⟨hS1,?_⟩
   refine tq 2 59 (.bool false) hS1 ?_
   refine tq 3 60 (.bool false) hS1 ?_
   refine tq 4 61 (.pointer (some ⟨g,0,none⟩)) hS1 ?_
   refine tq 6 63 (.slice (some ⟨ba,0,none⟩) (k+1) capA) hS1 ?_
   refine tq 7 64 (.int .i64 (k:Int)) hS1 ?_
   refine te 8 (some 65) (.int .i64 ((k-1:Nat):Int)) (zo (v0:= .int .i64 (wrap64 ((k:Int)-1))) kr (fun w9=>Sk.exec_sub (.tmp 64) (.const (.int .i64 1)) kr kr kr w9) (by rw [hA.out])) hS1 ?_
   refine tq 9 66 (.int .i64 (i:Int)) hS1 ?_
   refine te 10 (some 67) (.int .i64 (j:Int)) (zo (v0:= .int .i64 (wrap64 (((k-1:Nat):Int)-(i:Int)))) kr (fun w9=>Sk.exec_sub (.tmp 65) (.tmp 66) kr kr kr w9) (by rw [hB.out])) hS1 ?_
   refine te 11 (some 68) (.pointer (some ⟨ba,j*88,none⟩)) (zo (v0:= .pointer (some ⟨ba,j*88,none⟩)) kr (fun w9=>Sk.exec_ixp (.tmp 63) (.tmp 67) (n:=k+1) (cap:=capA) kr kr kr w9 hjk) rfl) hS1 ?_
   refine te 12 (some 69) (.agg (posC q)) (yieldsIf_load_mid kr 31 (.tmp 68) kr ba (j*88) kr (posL q) _ (fun _ h=>Sk.row_range Ra6 h.a hrA.out) underlying31 rfl (A.posL_info q)) hS1 ?_
   refine tf 5 (some 62) 18 (#[.pointer (some ⟨g,0,none⟩)]) (.agg (posC q)) (fun W=>Below u1.heap.size u1 W) (HPq _ hG1) (fun u2 hR=> ?_)
   have hS2:=hS1.below hR
   have hG2:=hG1.below hR
   clear hR
   refine⟨hS2,?_⟩
   refine te 13 (some 70) (.bool false) (zo (v0:= .bool (!samePos q q)) kr (fun w9=>zaT _ _ (.tmp 62) (.tmp 69) 31 q q w9 HOq HOq kr kr kr) (by rw [zah];rfl)) hS2 ?_
   refine tq 14 71 (.bool false) hS2 ?_
   refine tq 15 72 (.bool false) hS2 ?_
   refine tq 16 73 (.pointer (some ⟨g,0,none⟩)) hS2 ?_
   refine tq 18 75 (.slice (some ⟨bk,0,none⟩) (k+1) capK) hS2 ?_
   refine tq 19 76 (.int .i64 (k:Int)) hS2 ?_
   refine te 20 (some 77) (.int .i64 ((k-1:Nat):Int)) (zo (v0:= .int .i64 (wrap64 ((k:Int)-1))) kr (fun w9=>Sk.exec_sub (.tmp 76) (.const (.int .i64 1)) kr kr kr w9) (by rw [hA.out])) hS2 ?_
   refine tq 21 78 (.int .i64 (i:Int)) hS2 ?_
   refine te 22 (some 79) (.int .i64 (j:Int)) (zo (v0:= .int .i64 (wrap64 (((k-1:Nat):Int)-(i:Int)))) kr (fun w9=>Sk.exec_sub (.tmp 77) (.tmp 78) kr kr kr w9) (by rw [hB.out])) hS2 ?_
   refine te 23 (some 80) (.pointer (some ⟨bk,j,none⟩)) (zo (v0:= .pointer (some ⟨bk,j,none⟩)) kr (fun w9=>Sk.exec_ixu (.tmp 75) (.tmp 79) (n:=k+1) (cap:=capK) kr kr kr w9 hjk) rfl) hS2 ?_
   refine te 24 (some 81) (.int .u64 ky) (zt kr 23 (.tmp 80) kr ⟨bk,j,none⟩ kr (fun w9=>Sk.load_u64 _ _ w9) (fun w9 h9=>(h9.k.cell j).trans hrK.out)) hS2 ?_
   refine tf 17 (some 74) 19 (#[.pointer (some ⟨g,0,none⟩)]) (.int .u64 ky) (fun W=>Below u2.heap.size u2 W) (HKq _ hG2) (fun u3 hR=> ?_)
   have hS3:=hS2.below hR
   have hG3:=hG2.below hR
   clear hR
   refine⟨hS3,?_⟩
   refine te 25 (some 82) (.bool false) (zo (v0:= .bool (ky !=ky)) kr (fun _=>by kernel_rfl) (by rw [bne_self_eq_false])) hS3 ?_
   refine tq 26 83 (.bool false) hS3 ?_
   refine tq 27 84 (.bool false) hS3 ?_
   refine tq 28 85 (.pointer (some ⟨g,0,none⟩)) hS3 ?_
   refine tq 30 87 (.int .i64 (k:Int)) hS3 ?_
   refine te 31 (some 88) (.int .i64 ((k-1:Nat):Int)) (zo (v0:= .int .i64 (wrap64 ((k:Int)-1))) kr (fun w9=>Sk.exec_sub (.tmp 87) (.const (.int .i64 1)) kr kr kr w9) (by rw [hA.out])) hS3 ?_
   refine tq 32 89 (.int .i64 (i:Int)) hS3 ?_
   refine te 33 (some 90) (.int .i64 (j:Int)) (zo (v0:= .int .i64 (wrap64 (((k-1:Nat):Int)-(i:Int)))) kr (fun w9=>Sk.exec_sub (.tmp 88) (.tmp 89) kr kr kr w9) (by rw [hB.out])) hS3 ?_
   refine tf 29 (some 86) 21 (#[.pointer (some ⟨g,0,none⟩)]) (.int .i64 (j:Int)) (fun W=>Below u3.heap.size u3 W) (HLq _ hG3) (fun u4 hR=> ?_)
   have hS4:=hS3.below hR
   have hG4:=hG3.below hR
   clear hR
   refine⟨hS4,?_⟩
   refine te 34 (some 91) (.bool false) (zo (v0:= .bool ((j:Int) !=(j:Int))) kr (fun _=>by kernel_rfl) (by rw [bne_self_eq_false])) hS4 ?_
   refine tq 35 92 (.bool false) hS4 ?_
   refine wpAnyH_done kr ?_ _
   have HR9:=hid hS4
   have HA9:=hid hG4
   clear hS0 hG0 hS1 hG1 hS2 hG2 hS3 hG3 hS4 hG4
   go_wp2
   obtain⟨e1,e2⟩:=Sk.st_next (N:=k) (by have:=HK.out;omega) hik
   exact⟨⟨i+1,hik,congrArg _ e1,by rw [hkj];exact HA9,HR9⟩,e2⟩
  ·have hcase:(decide ((i:Int)<bk0)=false)∨(decide ((i:Int)<bk0)=true∧decide ((i:Int)<(k:Int))=false):=by simp only [decide_eq_false_iff_not,decide_eq_true_eq];omega
   obtain⟨m,hm⟩:∃m,k-i=m:=⟨_,rfl⟩
   rw [hm]at HA
   have hmk:m≤k:=by omega
   have HPl:Hid (∀W,Below w.heap.size w W→Sk.At w.heap.size W g s' m→Calls prog 36 #[.pointer (some ⟨g,0,none⟩),Sk.cutV ao cap m k] W (Sk.PlayEnd w.heap.size g s' m (fun i=>x (m+i)) (k-m) W)):=hid (fun W hb h=>play_any w.heap.size W g s' m (k-m) _ _ h ((HV.below hb).cut m k hmk HkN) (by have:=HK.out;omega) (fun W' h'=>HT W' (hb.trans h')) hb.size)
   have ew:wrap64 ((k:Int)-(m:Int))=((k-m:Nat):Int):=by have:=HK.out;simp only [wrap64];omega
   have hkc:k≤cap:=Nat.le_trans HkN hcp
   clear hgo hm
   rcases hcase with d2|⟨d2,d3⟩
   all_goals(
    go_upto_region 18 with(first
     |(go_at_call 21;(with_reducible refine(zhY w.heap.size _ g s' m HA.out).mono ?_);rintro e w7 ⟨rfl,rfl⟩)
     |((with_reducible refine Sk.wpl_cut rfl _ _ _ rfl ?_);refine⟨ao,N,cap,m,k,rfl,rfl,rfl,hmk,hkc,?_⟩)
     |(go_at_call 36;(with_reducible refine(HPl.out _ HR.out.b HA.out).mono ?_);rintro e w8 ⟨k',s'',rfl,hk',hc',hply⟩;obtain⟨rfl,hat,hpos⟩:=Sk.again HPy hmk hk' hc' hply;have A8:=hid hat;have HP8:=hid hpos;have R8:=hid (HR.kg hply.kg);clear hat hpos hply hc' hk'))
    skip)
   all_goals try(exfalso;exact absurd (show i<k by assumption) (fun h=>absurd (Int.ofNat_lt.2 h) (of_decide_eq_false d3)))
   all_goals(
    have HPo:=hid (gpositions_any w.heap.size w8 g s'' k A8 (by have:=HK.out;omega))
    go_wp2_with (first
     |(go_at_call 38;(with_reducible refine HPo.out.mono ?_);rintro e w9 ⟨v9,rfl,ho,hb⟩;obtain⟨bb,capB,rfl⟩:=ownsRow_succ ho;have O8:=hid ho;have R9:=hid (R8.below hb);clear ho hb))
    have O9:=hid (show w9.ownsRow w8.heap.size 31 88 (.slice (some ⟨bb,0,none⟩) (k+1) capB) (k+1) (Sk.psC s'.pos (k+1))from Sk.psC_congr (p:=s''.pos) (q:=s'.pos) (k+1) (fun i hi=>HP8 i (Nat.le_of_lt_succ hi))▸O8.out)
    have hla:ba<w9.heap.size:=R9.a.lt
    have hlb:bb<w9.heap.size:=(O9.lt bb rfl).2
    have HPs:=hid (fun W (hb:Below w9.heap.size w9 W) i (hi:i≤k)=>show W.rangeAt bb (i*88) (posL (s'.pos i))from Sk.rangeB (Sk.own_ps O9 (Nat.lt_succ_of_le hi)) hb)
    have HQs:=hid (fun W (hb:Below w9.heap.size w9 W) i (hi:i≤k)=>show W.rangeAt ba (i*88) (posL (s'.pos i))from Sk.rangeB (Sk.row_range R6.a R9.a (Sk.own_ps O5 (Nat.lt_succ_of_le hi))) hb)
    have HBw:=hid (fun W (hb:Below w9.heap.size w9 W)=>za R9.b hb)
    clear O8 O9 R9 R8 A8 HP8 HPl HA HR
    go_loopw [14] (fun vi wt=>∃t:Nat,t≤k+1∧vi= .int .i64 (t:Int)∧Hid (Below w9.heap.size w9 wt)) (fun vi _=>k+1-(intOf vi).toNat)
    case atStart=>exact⟨0,Nat.zero_le _,rfl,hid (Below.refl _ _)⟩
    case round=>
     obtain⟨t,ht,rfl,HB⟩:=hrel
     rename World=>wt
     by_cases hle:t≤k
     ·have hle2:(t:Int)≤(k:Int):=by omega
      have hle3:decide ((t:Int)≤(k:Int))=true:=by simp;omega
      have hi0:(0:Int)≤(t:Int):=by omega
      have hi1:(t:Int)<(k:Int)+1:=by omega
      have hi2:decide ((k:Int)+1≤(t:Int))=false:=by simp;omega
      have hi3:¬((k:Int)+1≤(t:Int)):=by omega
      have hp:=HPs wt HB t hle
      have hq:=HQs wt HB t hle
      have HOq:=hid (HOk t hle)
      obtain⟨q,hqq⟩:∃q,s'.pos t=q:=⟨_,rfl⟩
      rw [hqq]at hp hq HOq
      clear hqq
      have hla2:ba<wt.heap.size:=by have:=HB.size;omega
      have hlb2:bb<wt.heap.size:=by have:=HB.size;omega
      go_upto_region 22 with fail
      refine rB ?_
      try simp only [Act.put]
      repeat(first
       |(go_big_quiet_want;with_reducible refine zm 31 _ rfl underlying31 rfl ⟨_,_,posL q,rfl,hp,A.posL_info _,?_⟩;simp only [Act.put,sA,sB,sC];go_big_quiet_on)
       |(go_big_quiet_want;with_reducible refine zm 31 _ rfl underlying31 rfl ⟨_,_,posL q,rfl,hq,A.posL_info _,?_⟩;simp only [Act.put,sA,sB,sC];go_big_quiet_on)
       |(go_big_quiet_want;refine zea _ _ _ rfl ⟨q,q,HOq,HOq,rfl,rfl,?_⟩;rw [zah];simp only [Act.put,sA,sB,sC];go_big_quiet_on)
       |go_big_quiet_step (fail))
      refine wpQuiet_nil ?_
      intro w10 hb10
      have HB10:=hid (HB.trans (hb10.mono HB.size))
      clear hb10 hp hq
      go_wp2
      obtain⟨e1,e2⟩:=Sk.st_next (N:=k+1) (by have:=HK.out;omega) (Nat.lt_succ_of_le hle)
      exact⟨⟨t+1,Nat.succ_le_succ hle,congrArg _ e1,HB10⟩,e2⟩
     ·have hle2:decide ((t:Int)≤(k:Int))=false:=by simp;omega
      go_wp2
      go_ret
      exact⟨rfl,HBw _ HB⟩)
end Go.Proofs.YtbakeajgolhkgaaGreatDoor
