import Derived.Test.YtbakeajgolhkgaaGreatDoorYaz
import Derived.Test.YtbakeajgolhkgaaGreatDoorYbb
import Derived.Test.YtbakeajgolhkgaaGreatDoorZl
set_option maxRecDepth 100000
set_option maxHeartbeats 8000000
open Go.Lib (hid)
namespace Go.Proofs.YtbakeajgolhkgaaGreatDoor
open Go.Proofs.Tryz
open Go.RowKit Go.Sort
attribute [local go_sem] Oper.semAt_some
section
variable {P:Program} {ops:Array Oper} {Q:Exit→Act→World→Prop} {md:Region.Mode} {S:World→Prop} {fuel:Nat} {listed:Array Bool} {a:Act} {w:World}
theorem A.takeBox(i:Nat)(d:Option Tmp)(t:TypeId)(x:Operand)(cells:Array Value)(ho:Nat.blt i ops.size=true)(hr:Region.ready md ops listed=[i])(hw:Region.wanted (ops.getD i default) (yielded ops a.tmps)=true)
  (hd:(ops.getD i default).dst=d) (hop:(ops.getD i default).op= .box t x) (hx:(a.eval x).cells=cells)
  (h:S (w.alloc (.cells cells t))∧wpAnyH P md ops Q S fuel (listed.setIfInBounds i true) (a.put d (.pointer (some ⟨w.heap.size,0,none⟩))) (w.alloc (.cells cells t))):wpAnyH P md ops Q S (fuel+1) listed a w:=by
 refine takeOne i ho hr hw ?_
 unfold Oper.wp execOp
 simp only [hop,Sem.run_bind,Instr.box,newVar,newRow,run_newObj_alloc,Sem.run_pure,Result.andThen_ok]
 rw [hx]
 show S _∧wpAnyH P md ops Q S fuel (listed.setIfInBounds i true) (a.put (ops.getD i default).dst (.pointer (some ⟨w.heap.size,0,none⟩))) _
 rw [hd]
 exact h
theorem A.yi_build{o:Oper}(hw:Region.wanted o (yielded ops a.tmps)=true)(t:TypeId)(parts:Array (Nat×Operand))(ho:o.op= .build t parts)(cells:Array Value)(vals:List (Nat×Value))
  (hv:(parts.map fun(i,x)=>(i,a.eval x)).toList=vals) (hf:P.built t vals=some cells):YieldsIf P ops S o (.agg cells) a:=
 zo (v0:= .agg cells) hw (fun w=>by
  unfold execOp
  simp only [ho,Sem.run_bind,run_build w t _ _ (hv▸hf:P.built t (parts.map fun(i,x)=>(i,a.eval x)).toList=some cells),Result.andThen_ok]
  rfl) rfl
end
theorem A.rowR{w:World}{g:Nat}{T:TypeId}{l:List Value}(h:RowAt w g T l.toArray):w.rangeAt g 0 l:=fun j v hv=>by
 rw [Nat.zero_add,h.cell j]
 simpa using hv
theorem RowAt.of_below{w w':World}{g n:Nat}{T:TypeId}{cs:Array Value}(h:RowAt w g T cs)(hg:g<n)(hb:Below n w w'):RowAt w' g T cs:=⟨(hb.block g hg).trans h.heap⟩
theorem A.fun7_0(b:Nat)(w:World):(Instr.index 110 (.agg #[.func (.func 52) #[.pointer (some ⟨b,0,none⟩)] #[],.func (.func 53) #[.pointer (some ⟨b,0,none⟩)] #[],.func (.func 54) #[.pointer (some ⟨b,0,none⟩)] #[],.func (.func 55) #[.pointer (some ⟨b,0,none⟩)] #[],.func (.func 56) #[.pointer (some ⟨b,0,none⟩)] #[],.func (.func 57) #[.pointer (some ⟨b,0,none⟩)] #[],.func (.func 58) #[.pointer (some ⟨b,0,none⟩)] #[]]) (.int .i64 0)).run prog w= .ok (.func (.func 52) #[.pointer (some ⟨b,0,none⟩)] #[]) w:=by kernel_rfl
theorem A.fun7_1(b:Nat)(w:World):(Instr.index 110 (.agg #[.func (.func 52) #[.pointer (some ⟨b,0,none⟩)] #[],.func (.func 53) #[.pointer (some ⟨b,0,none⟩)] #[],.func (.func 54) #[.pointer (some ⟨b,0,none⟩)] #[],.func (.func 55) #[.pointer (some ⟨b,0,none⟩)] #[],.func (.func 56) #[.pointer (some ⟨b,0,none⟩)] #[],.func (.func 57) #[.pointer (some ⟨b,0,none⟩)] #[],.func (.func 58) #[.pointer (some ⟨b,0,none⟩)] #[]]) (.int .i64 1)).run prog w= .ok (.func (.func 53) #[.pointer (some ⟨b,0,none⟩)] #[]) w:=by kernel_rfl
theorem A.fun7_2(b:Nat)(w:World):(Instr.index 110 (.agg #[.func (.func 52) #[.pointer (some ⟨b,0,none⟩)] #[],.func (.func 53) #[.pointer (some ⟨b,0,none⟩)] #[],.func (.func 54) #[.pointer (some ⟨b,0,none⟩)] #[],.func (.func 55) #[.pointer (some ⟨b,0,none⟩)] #[],.func (.func 56) #[.pointer (some ⟨b,0,none⟩)] #[],.func (.func 57) #[.pointer (some ⟨b,0,none⟩)] #[],.func (.func 58) #[.pointer (some ⟨b,0,none⟩)] #[]]) (.int .i64 2)).run prog w= .ok (.func (.func 54) #[.pointer (some ⟨b,0,none⟩)] #[]) w:=by kernel_rfl
theorem A.fun7_3(b:Nat)(w:World):(Instr.index 110 (.agg #[.func (.func 52) #[.pointer (some ⟨b,0,none⟩)] #[],.func (.func 53) #[.pointer (some ⟨b,0,none⟩)] #[],.func (.func 54) #[.pointer (some ⟨b,0,none⟩)] #[],.func (.func 55) #[.pointer (some ⟨b,0,none⟩)] #[],.func (.func 56) #[.pointer (some ⟨b,0,none⟩)] #[],.func (.func 57) #[.pointer (some ⟨b,0,none⟩)] #[],.func (.func 58) #[.pointer (some ⟨b,0,none⟩)] #[]]) (.int .i64 3)).run prog w= .ok (.func (.func 55) #[.pointer (some ⟨b,0,none⟩)] #[]) w:=by kernel_rfl
theorem A.fun7_4(b:Nat)(w:World):(Instr.index 110 (.agg #[.func (.func 52) #[.pointer (some ⟨b,0,none⟩)] #[],.func (.func 53) #[.pointer (some ⟨b,0,none⟩)] #[],.func (.func 54) #[.pointer (some ⟨b,0,none⟩)] #[],.func (.func 55) #[.pointer (some ⟨b,0,none⟩)] #[],.func (.func 56) #[.pointer (some ⟨b,0,none⟩)] #[],.func (.func 57) #[.pointer (some ⟨b,0,none⟩)] #[],.func (.func 58) #[.pointer (some ⟨b,0,none⟩)] #[]]) (.int .i64 4)).run prog w= .ok (.func (.func 56) #[.pointer (some ⟨b,0,none⟩)] #[]) w:=by kernel_rfl
theorem A.fun7_5(b:Nat)(w:World):(Instr.index 110 (.agg #[.func (.func 52) #[.pointer (some ⟨b,0,none⟩)] #[],.func (.func 53) #[.pointer (some ⟨b,0,none⟩)] #[],.func (.func 54) #[.pointer (some ⟨b,0,none⟩)] #[],.func (.func 55) #[.pointer (some ⟨b,0,none⟩)] #[],.func (.func 56) #[.pointer (some ⟨b,0,none⟩)] #[],.func (.func 57) #[.pointer (some ⟨b,0,none⟩)] #[],.func (.func 58) #[.pointer (some ⟨b,0,none⟩)] #[]]) (.int .i64 5)).run prog w= .ok (.func (.func 57) #[.pointer (some ⟨b,0,none⟩)] #[]) w:=by kernel_rfl
theorem A.fun7_6(b:Nat)(w:World):(Instr.index 110 (.agg #[.func (.func 52) #[.pointer (some ⟨b,0,none⟩)] #[],.func (.func 53) #[.pointer (some ⟨b,0,none⟩)] #[],.func (.func 54) #[.pointer (some ⟨b,0,none⟩)] #[],.func (.func 55) #[.pointer (some ⟨b,0,none⟩)] #[],.func (.func 56) #[.pointer (some ⟨b,0,none⟩)] #[],.func (.func 57) #[.pointer (some ⟨b,0,none⟩)] #[],.func (.func 58) #[.pointer (some ⟨b,0,none⟩)] #[]]) (.int .i64 6)).run prog w= .ok (.func (.func 58) #[.pointer (some ⟨b,0,none⟩)] #[]) w:=by kernel_rfl
structure A.MvS (c:Nat→Int) (m:Mv) (w:World) (g:Nat) (w':World):Prop where
 p:PosAt w' g c
 m:RowAt w' (g+1) 47 (M.cell m).toArray
 z:RowAt w' (g+1+1) 31 zeroCells31
 b:Below g w w'
theorem A.MvS.next{c:Nat→Int}{m:Mv}{w:World}{g:Nat}{w' w'':World}(h:A.MvS c m w g w')(hb:Below w'.heap.size w' w''):A.MvS c m w g w'':=
 ⟨h.p.below hb,h.m.below hb,h.z.below hb,h.b.trans (hb.mono (Nat.le_of_lt h.p.lt))⟩
theorem A.MvS.start(c:Nat→Int)(m:Mv)(w:World):A.MvS c m w w.heap.size (((w.alloc (.cells (posC c) 31)).alloc (.cells (M.cell m).toArray 47)).alloc (.cells zeroCells31 31)):=by
 refine⟨((PosAt.new w c).alloc _).alloc _,?_,?_,(bA.alloc sp _).alloc (by simp;omega) _⟩
 ·have:=RowAt.new (w.alloc (.cells (posC c) 31)) (M.cell m).toArray 47
  rw [World.size_alloc]at this
  exact this.alloc _
 ·have:=RowAt.new ((w.alloc (.cells (posC c) 31)).alloc (.cells (M.cell m).toArray 47)) zeroCells31 31
  rwa [World.size_alloc,World.size_alloc]at this
theorem zhR(c:Nat→Int)(F G:Nat)(p d:Int)(ca:Bool)(w:World)(hc:PosOk c)(hT:Tb w)(hm:((F:Int),(G:Int),p,d,ca)∈A.all c)(hf:A.Fine c F G p d ca (Z.taken c ((F:Int),(G:Int),p,d,ca)))
  (HR:∀(b:Nat) (w0 w1:World),A.MvAt w1 b (A.step c ((F:Int),(G:Int),p,d,ca) (Z.taken c ((F:Int),(G:Int),p,d,ca)) 3) c ((F:Int),(G:Int),p,d,ca) (Z.taken c ((F:Int),(G:Int),p,d,ca))→A.Ctx w0 w1 b→cR 55 #[.pointer (some ⟨b,0,none⟩)] w1 (.tuple #[]) fun w'=>A.Step b (A.step c ((F:Int),(G:Int),p,d,ca) (Z.taken c ((F:Int),(G:Int),p,d,ca)) 4) c ((F:Int),(G:Int),p,d,ca) (Z.taken c ((F:Int),(G:Int),p,d,ca)) w1 w'):
  cB 17 #[.agg (posC c),.agg #[.int .i8 (F:Int),.int .i8 (G:Int),.int .u8 p,.int .u8 d,.bool ca]] w (.tuple #[.agg (posC (A.after c ((F:Int),(G:Int),p,d,ca) (Z.taken c ((F:Int),(G:Int),p,d,ca)))),.bool true]):=by
 have HTk:Hid (∀W,Tb W→cB 51 #[.agg (posC c),.agg #[.int .i8 (F:Int),.int .i8 (G:Int),.int .u8 p,.int .u8 d,.bool ca]] W (.int .i64 (Z.taken c ((F:Int),(G:Int),p,d,ca)))):=hid (fun W h=>zcy c (F:Int) (G:Int) p d ca W hc h)
 obtain⟨t,ht⟩:∃t,Z.taken c ((F:Int),(G:Int),p,d,ca)=t:=⟨_,rfl⟩
 rw [ht]at HTk hf HR⊢
 clear ht
 have hst:=A.MvS.start c ((F:Int),(G:Int),p,d,ca) w
 obtain⟨g,hg⟩:∃g,w.heap.size=g:=⟨_,rfl⟩
 have hp31:=underlying31
 have hmi:=underlying47
 have hlen:=A.all_len c hc
 have hin:decide (((F:Int),(G:Int),p,d,ca)∈A.all c)=true:=decide_eq_true hm
 have hT0:Hid (∀w',Below g w w'→Tb w'):=hid (fun w' hb=>zi hT (by rw [hg];exact hb))
 have HR2:=hid HR
 have HIN:=hid hin
 have HLN:=hid hlen
 have HTW:=hid hT
 clear HR hin hlen hm hT
 go_enter func17,ntmps17
 go_upto_region 1 with fail
 rw [hg]at hst
 obtain⟨W,hW⟩:∃W,(((w.alloc (.cells (posC c) 31)).alloc (.cells #[.int .i8 (F:Int),.int .i8 (G:Int),.int .u8 p,.int .u8 d,.bool ca] 47)).alloc (.cells zeroCells31 31))=W:=⟨_,rfl⟩
 have hst2:A.MvS c ((F:Int),(G:Int),p,d,ca) w g W:=by rw [←hW];exact hst
 rw [hW]
 clear hst hW
 refine wp_region_held (S:=A.MvS c ((F:Int),(G:Int),p,d,ca) w g) kr ?_
 have hSda:A.MvS c ((F:Int),(G:Int),p,d,ca) w g W.drew:=⟨⟨hst2.p.heap⟩,⟨hst2.m.heap⟩,⟨hst2.z.heap⟩,M.below_drew hst2.b 1⟩
 obtain⟨Va,hVa⟩:∃Va,W.drew=Va:=⟨_,rfl⟩
 rw [hVa]at hSda
 rw [show({heap:=W.heap,tape:=W.tape,drawn:=W.drawn+1,os:=W.os,output:=W.output}:World)=Va from hVa]
 clear hVa hst2
 refine te 0 (some 9) (.agg (posC c)) (yieldsIf_load_mid kr 31 (.tmp 2) kr g 0 kr (posL c) _ (fun _ h=>A.posR h.p) hp31 rfl (A.posL_info c)) hSda ?_
 refine te 2 (some 11) (.agg #[.int .i8 (F:Int),.int .i8 (G:Int),.int .u8 p,.int .u8 d,.bool ca]) (yieldsIf_load_mid kr 47 (.tmp 3) kr (g+1) 0 kr (M.cell ((F:Int),(G:Int),p,d,ca)) _ (fun _ h=>A.rowR h.m) hmi rfl (A.cell_info ((F:Int),(G:Int),p,d,ca))) hSda ?_
 refine takeCallE 1 (some 10) 50 (#[.agg (posC c)]) (fun v w9=>w9.ownsRow Va.heap.size 47 5 v (A.all c).length (M.cells (A.all c))∧Below Va.heap.size Va w9) kr kr kr kr kr (zeH c _ hc (hT0.out _ hSda.b)) (fun v1 w1 hR1=> ?_)
 simp only [Act.put,sA,sB,sC]
 have hS1:=hSda.next hR1.2
 refine⟨hS1,?_⟩
 have hCn:cB 49 #[v1,.agg #[.int .i8 (F:Int),.int .i8 (G:Int),.int .u8 p,.int .u8 d,.bool ca]] w1 (.bool true):=by
  have:=zaX (A.all c) v1 (F:Int) (G:Int) p d ca w1 (M.reads_own hR1.1) (by have:=HLN.out;omega)
  rwa [HIN.out]at this
 clear hR1 hSda
 refine takeCall 3 (some 12) 49 (#[v1,.agg #[.int .i8 (F:Int),.int .i8 (G:Int),.int .u8 p,.int .u8 d,.bool ca]]) (.bool true) (fun w9=>Below w1.heap.size w1 w9) kr kr kr kr kr hCn (fun w2 hR2=> ?_)
 simp only [Act.put,sA,sB,sC]
 have hS2:=hS1.next hR2
 clear hCn hR2 hS1
 refine⟨hS2,?_⟩
 refine tq 4 13 (.bool false) hS2 ?_
 refine wpAnyH_done kr ?_ _
 go_upto_region 3 with fail
 refine wp_region_held (S:=A.MvS c ((F:Int),(G:Int),p,d,ca) w g) kr ?_
 have hSdb:A.MvS c ((F:Int),(G:Int),p,d,ca) w g w2.drew:=⟨⟨hS2.p.heap⟩,⟨hS2.m.heap⟩,⟨hS2.z.heap⟩,M.below_drew hS2.b 1⟩
 obtain⟨Vb,hVb⟩:∃Vb,w2.drew=Vb:=⟨_,rfl⟩
 rw [hVb]at hSdb
 rw [show({heap:=w2.heap,tape:=w2.tape,drawn:=w2.drawn+1,os:=w2.os,output:=w2.output}:World)=Vb from hVb]
 clear hVb hS2
 refine te 0 (some 15) (.agg (posC c)) (yieldsIf_load_mid kr 31 (.tmp 2) kr g 0 kr (posL c) _ (fun _ h=>A.posR h.p) hp31 rfl (A.posL_info c)) hSdb ?_
 refine te 1 (some 16) (.agg (posC c)) (yieldsIf_load_mid kr 31 (.tmp 2) kr g 0 kr (posL c) _ (fun _ h=>A.posR h.p) hp31 rfl (A.posL_info c)) hSdb ?_
 refine te 2 (some 17) (.agg #[.int .i8 (F:Int),.int .i8 (G:Int),.int .u8 p,.int .u8 d,.bool ca]) (yieldsIf_load_mid kr 47 (.tmp 3) kr (g+1) 0 kr (M.cell ((F:Int),(G:Int),p,d,ca)) _ (fun _ h=>A.rowR h.m) hmi rfl (A.cell_info ((F:Int),(G:Int),p,d,ca))) hSdb ?_
 refine te 3 (some 18) (.agg (posC c)) (yieldsIf_load_mid kr 31 (.tmp 2) kr g 0 kr (posL c) _ (fun _ h=>A.posR h.p) hp31 rfl (A.posL_info c)) hSdb ?_
 refine te 4 (some 19) (.agg #[.int .i8 (F:Int),.int .i8 (G:Int),.int .u8 p,.int .u8 d,.bool ca]) (yieldsIf_load_mid kr 47 (.tmp 3) kr (g+1) 0 kr (M.cell ((F:Int),(G:Int),p,d,ca)) _ (fun _ h=>A.rowR h.m) hmi rfl (A.cell_info ((F:Int),(G:Int),p,d,ca))) hSdb ?_
 have hTk:=HTk Vb (hT0.out _ hSdb.b)
 refine takeCall 5 (some 20) 51 (#[.agg (posC c),.agg #[.int .i8 (F:Int),.int .i8 (G:Int),.int .u8 p,.int .u8 d,.bool ca]]) (.int .i64 t) (fun w9=>Below Vb.heap.size Vb w9) kr kr kr kr kr hTk (fun w3 hR3=> ?_)
 simp only [Act.put,sA,sB,sC]
 have hS3:=hSdb.next hR3
 clear hTk hR3 hSdb
 refine⟨hS3,?_⟩
 refine te 6 (some 21) (.agg (A.mvr c c ((F:Int),(G:Int),p,d,ca) t)) (A.yi_build kr 109 #[(0,.tmp 15),(1,.tmp 16),(2,.tmp 17),(3,.tmp 20)] kr (A.mvr c c ((F:Int),(G:Int),p,d,ca) t) [(0,.agg (posC c)),(1,.agg (posC c)),(2,.agg #[.int .i8 (F:Int),.int .i8 (G:Int),.int .u8 p,.int .u8 d,.bool ca]),(3,.int .i64 t)] kr (A.mvr_built c c (F:Int) (G:Int) p d ca t)) hS3 ?_
 refine A.takeBox 7 (some 22) 109 (.tmp 21) (A.mvr c c ((F:Int),(G:Int),p,d,ca) t) kr kr kr kr kr rfl ?_
 simp only [Act.put,sA,sB,sC]
 have hRb:=RowAt.new w3 (A.mvr c c ((F:Int),(G:Int),p,d,ca) t) 109
 have hAl:Below w3.heap.size w3 (w3.alloc (.cells (A.mvr c c ((F:Int),(G:Int),p,d,ca) t) 109)):=bA
 obtain⟨w4,hw4⟩:∃w4,w3.alloc (.cells (A.mvr c c ((F:Int),(G:Int),p,d,ca) t) 109)=w4:=⟨_,rfl⟩
 rw [hw4]at hRb hAl⊢
 have hS4:=hS3.next hAl
 have hzb:=hS3.z.lt
 obtain⟨b,hb⟩:∃b,w3.heap.size=b:=⟨_,rfl⟩
 rw [hb]at hRb hzb⊢
 clear hw4 hAl hS3
 refine⟨hS4,?_⟩
 refine tq 8 6 (.pointer (some ⟨b,0,none⟩)) hS4 ?_
 refine wpAnyH_done kr ?_ _
 have HM4:Hid (A.MvAt w4 b c c ((F:Int),(G:Int),p,d,ca) t):=hid ⟨hRb⟩
 have HZ4:=hid hS4.z
 have HB4:=hid hS4.b
 have HBG:=hid (show g+2<b by omega)
 clear hS4 hRb hzb hb
 go_wp2_with fail
 have HF:=hid hf
 clear hf
 go_loopw [38] (fun x wr=>∃k:Nat,k≤7∧x= .int .i64 (k:Int)∧A.MvAt wr b (A.step c ((F:Int),(G:Int),p,d,ca) t k) c ((F:Int),(G:Int),p,d,ca) t∧RowAt wr (g+1+1) 31 zeroCells31∧Below g w wr) (fun x _=>7-(intOf x).toNat)
 case atStart=>exact⟨0,by omega,rfl,HM4,HZ4,HB4⟩
 case round=>
  obtain⟨k,hk,rfl,hM,hz,hb⟩:=hrel
  have hCx:A.Ctx w wr b:=⟨HTW,by rw [hg];exact hb,by have:=HBG.out;omega⟩
  have hne:b≠g+1+1:=by have:=HBG.out;omega
  by_cases hlt:k<7
  ·rcases(show k=0∨k=1∨k=2∨k=3∨k=4∨k=5∨k=6 by omega)with rfl|rfl|rfl|rfl|rfl|rfl|rfl
   ·have hix:=A.fun7_0 b
    have HZ:=hid hz
    have HB:=hid hb
    have HC:=hid (ziw HF hM)
    clear hz hb hCx hM
    go_wp2_with (go_at_call 52;refine HC.mono ?_;rintro e w9 ⟨rfl,hS⟩)
    have HS:=hid hS
    clear hS hix
    go_roundw
    case rel=>exact⟨0+1,by omega,by go_num,HS.at',HZ.grown HS.grown (fun q e=>by cases e;exact hne),HB.grown HS.grown (by have:=HB.size;omega) (fun q e=>by cases e;have:=HBG.out;omega)⟩
    case measure=>simp [intOf]
   ·have hix:=A.fun7_1 b
    have HZ:=hid hz
    have HB:=hid hb
    have HC:=hid (ziX HF hM)
    clear hz hb hCx hM
    go_wp2_with (go_at_call 53;refine HC.mono ?_;rintro e w9 ⟨rfl,hS⟩)
    have HS:=hid hS
    clear hS hix
    go_roundw
    case rel=>exact⟨1+1,by omega,by go_num,HS.at',HZ.grown HS.grown (fun q e=>by cases e;exact hne),HB.grown HS.grown (by have:=HB.size;omega) (fun q e=>by cases e;have:=HBG.out;omega)⟩
    case measure=>simp [intOf]
   ·have hix:=A.fun7_2 b
    have HZ:=hid hz
    have HB:=hid hb
    have HC:=hid (ziK HF hM hCx)
    clear hz hb hCx hM
    go_wp2_with (go_at_call 54;refine HC.mono ?_;rintro e w9 ⟨rfl,hS⟩)
    have HS:=hid hS
    clear hS hix
    go_roundw
    case rel=>exact⟨2+1,by omega,by go_num,HS.at',HZ.grown HS.grown (fun q e=>by cases e;exact hne),HB.grown HS.grown (by have:=HB.size;omega) (fun q e=>by cases e;have:=HBG.out;omega)⟩
    case measure=>simp [intOf]
   ·have hix:=A.fun7_3 b
    have HZ:=hid hz
    have HB:=hid hb
    have HC:=hid (HR2 b w wr hM hCx)
    clear hz hb hCx hM
    go_wp2_with (go_at_call 55;refine HC.mono ?_;rintro e w9 ⟨rfl,hS⟩)
    have HS:=hid hS
    clear hS hix
    go_roundw
    case rel=>exact⟨3+1,by omega,by go_num,HS.at',HZ.grown HS.grown (fun q e=>by cases e;exact hne),HB.grown HS.grown (by have:=HB.size;omega) (fun q e=>by cases e;have:=HBG.out;omega)⟩
    case measure=>simp [intOf]
   ·have hix:=A.fun7_4 b
    have HZ:=hid hz
    have HB:=hid hb
    have HC:=hid (ziI HF hM)
    clear hz hb hCx hM
    go_wp2_with (go_at_call 56;refine HC.mono ?_;rintro e w9 ⟨rfl,hS⟩)
    have HS:=hid hS
    clear hS hix
    go_roundw
    case rel=>exact⟨4+1,by omega,by go_num,HS.at',HZ.grown HS.grown (fun q e=>by cases e;exact hne),HB.grown HS.grown (by have:=HB.size;omega) (fun q e=>by cases e;have:=HBG.out;omega)⟩
    case measure=>simp [intOf]
   ·have hix:=A.fun7_5 b
    have HZ:=hid hz
    have HB:=hid hb
    have HC:=hid (ziE HF hM)
    clear hz hb hCx hM
    go_wp2_with (go_at_call 57;refine HC.mono ?_;rintro e w9 ⟨rfl,hS⟩)
    have HS:=hid hS
    clear hS hix
    go_roundw
    case rel=>exact⟨5+1,by omega,by go_num,HS.at',HZ.grown HS.grown (fun q e=>by cases e;exact hne),HB.grown HS.grown (by have:=HB.size;omega) (fun q e=>by cases e;have:=HBG.out;omega)⟩
    case measure=>simp [intOf]
   ·have hix:=A.fun7_6 b
    have HZ:=hid hz
    have HB:=hid hb
    have HC:=hid (ziJ HF hM hCx)
    clear hz hb hCx hM
    go_wp2_with (go_at_call 58;refine HC.mono ?_;rintro e w9 ⟨rfl,hS⟩)
    have HS:=hid hS
    clear hS hix
    go_roundw
    case rel=>exact⟨6+1,by omega,by go_num,HS.at',HZ.grown HS.grown (fun q e=>by cases e;exact hne),HB.grown HS.grown (by have:=HB.size;omega) (fun q e=>by cases e;have:=HBG.out;omega)⟩
    case measure=>simp [intOf]
  ·obtain rfl:k=7:=by omega
   have hz0:=hz.heap
   have hrq:=hM.rq
   have HM:=hid hM
   have HB:=hid hb
   clear hM hb hCx hz
   go_wp2_with (first
    |((with_reducible refine zbX rfl 31 _ rfl hp31 rfl ?_);refine⟨b,0,posL (A.step c ((F:Int),(G:Int),p,d,ca) t 7),rfl,hrq,A.posL_info _,?_⟩)
    |((with_reducible refine zn rfl _ _ rfl ?_);refine⟨g+1+1,_,rfl,rfl,⟨_,hz0,A.zero_pos⟩,?_⟩;intro W9 hP9 hq9))
   exact bodyPost_ret (A.results_row results17 _ _ (g+1+1) _ _ _ _ rfl hq9.heap hp31 rfl (zr _)) rfl ⟨rfl,by have h:=hP9.below HB om;rwa [←hg]at h⟩
end Go.Proofs.YtbakeajgolhkgaaGreatDoor
