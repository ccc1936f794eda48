import Derived.Test.YtbakeajgolhkgaaGreatDoorYah
import Derived.Test.YtbakeajgolhkgaaGreatDoorYad
set_option maxRecDepth 100000
set_option maxHeartbeats 8000000
open Go.Lib (hid)
namespace Go.Proofs.YtbakeajgolhkgaaGreatDoor
open Go.Proofs.Tryz
open Go.RowKit Go.Sort
attribute [local go_sem] Oper.semAt_some
def T.bare(c:Nat→Int)(k s:Nat):Nat→Int:=upd (upd c (1+k) 0) (1+s) 0
def T.emptyB(c:Nat→Int)(k s x:Nat):Bool:= !bit (S.all (T.bare c k s)) x
def T.safeB(c:Nat→Int)(t k s x:Nat):Bool:=(c 0==3&&U (bAnd (R.king (x:Int)) (S.of c (1-(t:Int)) 6)) !=0)|| !K.on (T.bare c k s) x (1-(t:Int))
def T.kg(t d:Nat):Nat:=56*t+(if d=0 then 6 else 2)
def T.rg(t d:Nat):Nat:=56*t+(if d=0 then 5 else 3)
def T.mayOk(c:Nat→Int)(t d k s:Nat):Bool:=((T.seg k (T.kg t d)).all fun x=>T.emptyB c k s x.val)&&(((T.seg s (T.rg t d)).all fun x=>T.emptyB c k s x.val)&&((T.seg k (T.kg t d)).all fun x=>T.safeB c t k s x.val))
theorem T.bare_bd(c:Nat→Int)(k s:Nat)(hc:BdOk c):BdOk (T.bare c k s):=fun j hj=>by
 unfold T.bare upd
 split
 ·omega
 ·split
  ·omega
  ·exact hc j hj
theorem size_Move:(prog.info? 47).map (·.size)=some 5:=by kernel_rfl
theorem T.move_one(a b p d:Int)(e:Bool):(#[.int .i8 a,.int .i8 b,.int .u8 p,.int .u8 d,.bool e]:Array Value).all (·.oneCell')=true:=by simp [Value.oneCell']
theorem zS:zeroCells31.size=88:=by kernel_rfl
theorem ziR(c:Nat→Int)(t d k s:Nat)(w:World)(hc:PosOk c)(ht:t<2)(hd:d<2)(hk:k<64)(hct:c 78=(t:Int))(hs:56*t≤s∧s≤56*t+7)(hf:c (T.rightAt t d)=(s:Int)-56*t)(hb:T.rookOk c t d k s=true)(hT:Tb w):
  cB 195 #[.agg (posC c),.int .i64 (k:Int),.int .i64 (d:Int)] w (.tuple #[.agg #[.int .i8 (k:Int),.int .i8 (s:Int),.int .u8 0,.int .u8 0,.bool true],.bool (T.mayOk c t d k s)]):=by
 have hb0:Below w.heap.size w ((w.alloc (.cells (posC c) 31)).alloc (.cells #[.int .i8 0,.int .i8 0,.int .u8 0,.int .u8 0,.bool false] 47)):=bA.alloc sp _
 have hp:=(PosAt.new w c).alloc (.cells #[.int .i8 0,.int .i8 0,.int .u8 0,.int .u8 0,.bool false] 47)
 have hM:RowAt ((w.alloc (.cells (posC c) 31)).alloc (.cells #[.int .i8 0,.int .i8 0,.int .u8 0,.int .u8 0,.bool false] 47)) (w.heap.size+1) 47 #[.int .i8 0,.int .i8 0,.int .u8 0,.int .u8 0,.bool false]:=by
  have:=RowAt.new (w.alloc (.cells (posC c) 31)) #[.int .i8 0,.int .i8 0,.int .u8 0,.int .u8 0,.bool false] 47
  rwa [World.size_alloc]at this
 have hcb:=zw hc
 have hqb:=T.bare_bd c k s hcb
 have R1:=hid (fun W=>zfL c t d k s true W hc ht hd hct hs hf hb)
 have hsk:s≠k:=by
  unfold T.rookOk at hb
  simp only [Bool.and_eq_true,bne_iff_ne]at hb
  intro e;exact hb.2.2 (by rw [e])
 have hs64:s<64:=by omega
 have hIk:(k:Int)<64:=by omega
 have hIs:(s:Int)<64:=by omega
 have w8k:IntKind.i8.wrap (k:Int)=(k:Int):=by unfold IntKind.wrap;simp [IntKind.bits,IntKind.signed];omega
 have w8s:IntKind.i8.wrap (s:Int)=(s:Int):=by unfold IntKind.wrap;simp [IntKind.bits,IntKind.signed];omega
 have HT:=hid (fun W (hb:Below w.heap.size w W)=>zi hT hb)
 clear hb hf hc hT
 have i0:∀w:World,(Instr.index 237 (.agg #[.int .i64 6,.int .i64 5,.int .i64 2,.int .i64 3]) (.int .i64 0)).run prog w= .ok (.agg #[.int .i64 6,.int .i64 5]) w:=fun _=>by kernel_rfl
 have i1:∀w:World,(Instr.index 237 (.agg #[.int .i64 6,.int .i64 5,.int .i64 2,.int .i64 3]) (.int .i64 1)).run prog w= .ok (.agg #[.int .i64 2,.int .i64 3]) w:=fun _=>by kernel_rfl
 have i2:∀w:World,(Instr.index 236 (.agg #[.int .i64 6,.int .i64 5]) (.int .i64 0)).run prog w= .ok (.int .i64 6) w:=fun _=>by kernel_rfl
 have i3:∀w:World,(Instr.index 236 (.agg #[.int .i64 6,.int .i64 5]) (.int .i64 1)).run prog w= .ok (.int .i64 5) w:=fun _=>by kernel_rfl
 have i4:∀w:World,(Instr.index 236 (.agg #[.int .i64 2,.int .i64 3]) (.int .i64 0)).run prog w= .ok (.int .i64 2) w:=fun _=>by kernel_rfl
 have i5:∀w:World,(Instr.index 236 (.agg #[.int .i64 2,.int .i64 3]) (.int .i64 1)).run prog w= .ok (.int .i64 3) w:=fun _=>by kernel_rfl
 rcases(show t=0∨t=1 by omega)with rfl|rfl<;>rcases(show d=0∨d=1 by omega)with rfl|rfl
 ·go_enter func195,ntmps195
  go_wp2_with (first
   |((with_reducible refine ze rfl _ rfl ?_);refine⟨_,_,rfl,(by first|assumption|exact hp.alloc _),?_⟩)
   |((with_reducible refine zn rfl _ _ rfl ?_);refine⟨_,c,rfl,rfl,⟨_,heap_alloc_new _ _,zS⟩,?_⟩;intro V hV hq;have hne:=hp.lt;have hne1:=hM.lt;replace hp:=hV.pos (hp.alloc _) om;replace hM:=hV.row (hM.alloc _) (by have:=hM.lt;omega);replace hb0:=hV.below (hb0.alloc hb0.size _) hb0.size;clear hV)
   |(go_at_call 276;refine(R1 _).mono ?_;rintro e u ⟨rfl,hb⟩;replace hp:=hp.below hb;replace hM:=hM.below hb;replace hb0:=za hb0 hb;clear hb;have h78:=hp.cell (i:=78) dc;rw [hct,show pk 78= .u8 from rfl]at h78)
   |(go_at_call 199;refine(zam _).mono ?_;rintro e u ⟨rfl,hb⟩;replace hp:=hp.below hb;replace hM:=hM.below hb;replace hb0:=za hb0 hb;clear hb;have h78:=hp.cell (i:=78) dc;rw [hct,show pk 78= .u8 from rfl]at h78)
   |(go_at_call 194;refine(zA 0 _ dc).mono ?_;rintro e u ⟨rfl,rfl⟩))
  have hG:=RowAt.new u #[.int .i64 6,.int .i64 5] 236
  replace hp:=hp.alloc (.cells #[.int .i64 6,.int .i64 5] 236)
  replace hM:=hM.alloc (.cells #[.int .i64 6,.int .i64 5] 236)
  have hgu:=hb0.size
  replace hb0:=hb0.alloc hb0.size (.cells #[.int .i64 6,.int .i64 5] 236)
  have c78:=hp.cell (i:=78) dc
  rw [hct,show pk 78= .u8 from rfl]at c78
  have g0:=hG.cell 0
  have g1:=hG.cell 1
  simp only [List.getElem?_toArray,List.getElem?_cons_zero,List.getElem?_cons_succ]at g0 g1
  have lp:=hp.lt
  have lG:=hG.lt
  revert hp hM hb0 c78 g0 g1 lp lG hG
  generalize u.alloc (.cells #[.int .i64 6,.int .i64 5] 236)=u2
  intro hG hp hM hb0 c78 g0 g1 lp lG
  go_quiet ((go_at_call 194;exact zJ (zA 0 _ dc)))
  replace hp:=hp.drewN nq
  replace hM:=hM.drewN nq
  replace hb0:=T.below_drew hb0 nq
  clear c78 g0 g1 lp lG hG
  revert hp hM hb0
  generalize u2.drewN nq=u3
  intro hp hM hb0
  go_wp2_with (first
   |((with_reducible refine ze rfl _ rfl ?_);refine⟨_,_,rfl,(by first|assumption|exact hp.alloc _),?_⟩)
   |((with_reducible refine zn rfl _ _ rfl ?_);refine⟨_,c,rfl,rfl,⟨_,heap_alloc_new _ _,zS⟩,?_⟩;intro V hV hq;have hne:=hp.lt;have hne1:=hM.lt;replace hp:=hV.pos (hp.alloc _) om;replace hM:=hV.row (hM.alloc _) (by have:=hM.lt;omega);replace hb0:=hV.below (hb0.alloc hb0.size _) hb0.size;clear hV)
   |((with_reducible refine zB rfl _ _ _ rfl ?_);refine⟨_,_,_,_,_,rfl,rfl,hq,om,(by first|exact zk hk|exact zk hs64),size_u8,?_⟩;intro V hV hq2;replace hp:=hV.pos hp om;replace hM:=hV.row hM om;replace hb0:=hV.below hb0 om;clear hV hq;have hq:=hq2;clear hq2)
   |(go_at_call 197;refine(zan (T.bare c k s) _ hqb).mono ?_;rintro e u4 ⟨rfl,hb⟩;replace hp:=hp.below hb;replace hM:=hM.below hb;replace hq:PosAt u4 _ (T.bare c k s):=hq.below hb;replace hb0:=za hb0 hb;clear hb;have l4:=hp.lt;have h78:=(hp.alloc (.cells #[.int .u64 (U (S.all (T.bare c k s)))] 23)).cell (i:=78) dc;rw [hct,show pk 78= .u8 from rfl]at h78)
   |(go_at_call 134;refine(zO c _ _ _ hcb).mono ?_;rintro e u5 ⟨rfl,hb⟩;have hN:=(RowAt.new _ _ _).below hb;replace hp:=(hp.alloc _).below hb;replace hM:=(hM.alloc _).below hb;replace hq:=(hq.alloc _).below hb;replace hb0:=za (hb0.alloc hb0.size _) hb;clear hb))
  have hO:=RowAt.new u5 #[.int .u64 (U (S.of c 1 6))] 23
  replace hp:=hp.alloc (.cells #[.int .u64 (U (S.of c 1 6))] 23)
  replace hM:=hM.alloc (.cells #[.int .u64 (U (S.of c 1 6))] 23)
  replace hq:=hq.alloc (.cells #[.int .u64 (U (S.of c 1 6))] 23)
  replace hN:=hN.alloc (.cells #[.int .u64 (U (S.of c 1 6))] 23)
  replace hb0:=hb0.alloc hb0.size (.cells #[.int .u64 (U (S.of c 1 6))] 23)
  clear h78
  revert hO hp hM hq hN hb0
  generalize u5.alloc (.cells #[.int .u64 (U (S.of c 1 6))] 23)=u6
  intro hO hp hM hq hN hb0
  refine(zaj k 6 u4.heap.size (T.emptyB c k s) _ hk dc (fun x hx W hb=>zaw x u4.heap.size _ _ W hx ((hN.below hb).cell 0) rfl)).mono ?_
  rintro e u7 ⟨rfl,hb⟩
  replace hO:=hO.below hb
  replace hp:=hp.below hb
  replace hM:=hM.below hb
  replace hq:=hq.below hb
  replace hN:=hN.below hb
  replace hb0:=za hb0 hb
  clear hb
  cases v1:(T.seg k 6).all fun x=>T.emptyB c k s x.val
  ·go_wp2_with (first
    |((with_reducible refine zb rfl _ _ _ rfl ?_);refine⟨w.heap.size+1,_,_,rfl,rfl,⟨_,hM.heap,rfl⟩,size_Move,T.move_one _ _ _ _ _,?_⟩;intro V hV hMV;replace hb0:=hV.below hb0 (Nat.le_succ _)))
   have hok:T.mayOk c 0 0 k s=false:=by unfold T.mayOk;rw [show T.kg 0 0=6 from rfl,v1];rfl
   exact bodyPost_ret (v:= .tuple #[.agg #[.int .i8 (k:Int),.int .i8 (s:Int),.int .u8 0,.int .u8 0,.bool true],.bool false]) (results_cell_tmp results195 _ _ (w.heap.size+1) 47 _ _ _ rfl rfl hMV underlying47 rfl size_Move) rfl ⟨by rw [hok],hb0⟩
  ·go_wp2_with fail
   refine(zaj s 5 u4.heap.size (T.emptyB c k s) _ hs64 dc (fun x hx W hb=>zaw x u4.heap.size _ _ W hx ((hN.below hb).cell 0) rfl)).mono ?_
   rintro e u8 ⟨rfl,hb⟩
   replace hO:=hO.below hb
   replace hp:=hp.below hb
   replace hM:=hM.below hb
   replace hq:=hq.below hb
   replace hN:=hN.below hb
   replace hb0:=za hb0 hb
   clear hb
   cases v2:(T.seg s 5).all fun x=>T.emptyB c k s x.val
   ·go_wp2_with (first
     |((with_reducible refine zb rfl _ _ _ rfl ?_);refine⟨w.heap.size+1,_,_,rfl,rfl,⟨_,hM.heap,rfl⟩,size_Move,T.move_one _ _ _ _ _,?_⟩;intro V hV hMV;replace hb0:=hV.below hb0 (Nat.le_succ _)))
    have hok:T.mayOk c 0 0 k s=false:=by unfold T.mayOk;rw [show T.kg 0 0=6 from rfl,show T.rg 0 0=5 from rfl,v1,v2];rfl
    exact bodyPost_ret (v:= .tuple #[.agg #[.int .i8 (k:Int),.int .i8 (s:Int),.int .u8 0,.int .u8 0,.bool true],.bool false]) (results_cell_tmp results195 _ _ (w.heap.size+1) 47 _ _ _ rfl rfl hMV underlying47 rfl size_Move) rfl ⟨by rw [hok],hb0⟩
   ·go_wp2_with fail
    refine(zb7 k 6 w.heap.size u5.heap.size u3.heap.size (T.safeB c 0 k s) _ hk dc (fun x _ W hb=>zb1 x 0 w.heap.size u5.heap.size u3.heap.size c (T.bare c k s) _ W dc hct hqb (HT W (za hb0 hb)) (hp.below hb) ((hO.below hb).cell 0) (hq.below hb))).mono ?_
    rintro e u9 ⟨rfl,hb⟩
    replace hO:=hO.below hb
    replace hp:=hp.below hb
    replace hM:=hM.below hb
    replace hq:=hq.below hb
    replace hN:=hN.below hb
    replace hb0:=za hb0 hb
    clear hb
    have hok:T.mayOk c 0 0 k s=((T.seg k 6).all fun x=>T.safeB c 0 k s x.val):=by unfold T.mayOk;rw [show T.kg 0 0=6 from rfl,show T.rg 0 0=5 from rfl,v1,v2];rfl
    generalize((T.seg k 6).all fun x=>T.safeB c 0 k s x.val)=v3 at hok⊢
    go_wp2_with (first
      |((with_reducible refine zb rfl _ _ _ rfl ?_);refine⟨w.heap.size+1,_,_,rfl,rfl,⟨_,hM.heap,rfl⟩,size_Move,T.move_one _ _ _ _ _,?_⟩;intro V hV hMV;replace hb0:=hV.below hb0 (Nat.le_succ _)))
    exact bodyPost_ret (v:= .tuple #[.agg #[.int .i8 (k:Int),.int .i8 (s:Int),.int .u8 0,.int .u8 0,.bool true],.bool v3]) (results_cell_tmp results195 _ _ (w.heap.size+1) 47 _ _ _ rfl rfl hMV underlying47 rfl size_Move) rfl ⟨by rw [hok],hb0⟩
 ·go_enter func195,ntmps195
  go_wp2_with (first
   |((with_reducible refine ze rfl _ rfl ?_);refine⟨_,_,rfl,(by first|assumption|exact hp.alloc _),?_⟩)
   |((with_reducible refine zn rfl _ _ rfl ?_);refine⟨_,c,rfl,rfl,⟨_,heap_alloc_new _ _,zS⟩,?_⟩;intro V hV hq;have hne:=hp.lt;have hne1:=hM.lt;replace hp:=hV.pos (hp.alloc _) om;replace hM:=hV.row (hM.alloc _) (by have:=hM.lt;omega);replace hb0:=hV.below (hb0.alloc hb0.size _) hb0.size;clear hV)
   |(go_at_call 276;refine(R1 _).mono ?_;rintro e u ⟨rfl,hb⟩;replace hp:=hp.below hb;replace hM:=hM.below hb;replace hb0:=za hb0 hb;clear hb;have h78:=hp.cell (i:=78) dc;rw [hct,show pk 78= .u8 from rfl]at h78)
   |(go_at_call 199;refine(zam _).mono ?_;rintro e u ⟨rfl,hb⟩;replace hp:=hp.below hb;replace hM:=hM.below hb;replace hb0:=za hb0 hb;clear hb;have h78:=hp.cell (i:=78) dc;rw [hct,show pk 78= .u8 from rfl]at h78)
   |(go_at_call 194;refine(zA 0 _ dc).mono ?_;rintro e u ⟨rfl,rfl⟩))
  have hG:=RowAt.new u #[.int .i64 2,.int .i64 3] 236
  replace hp:=hp.alloc (.cells #[.int .i64 2,.int .i64 3] 236)
  replace hM:=hM.alloc (.cells #[.int .i64 2,.int .i64 3] 236)
  have hgu:=hb0.size
  replace hb0:=hb0.alloc hb0.size (.cells #[.int .i64 2,.int .i64 3] 236)
  have c78:=hp.cell (i:=78) dc
  rw [hct,show pk 78= .u8 from rfl]at c78
  have g0:=hG.cell 0
  have g1:=hG.cell 1
  simp only [List.getElem?_toArray,List.getElem?_cons_zero,List.getElem?_cons_succ]at g0 g1
  have lp:=hp.lt
  have lG:=hG.lt
  revert hp hM hb0 c78 g0 g1 lp lG hG
  generalize u.alloc (.cells #[.int .i64 2,.int .i64 3] 236)=u2
  intro hG hp hM hb0 c78 g0 g1 lp lG
  go_quiet ((go_at_call 194;exact zJ (zA 0 _ dc)))
  replace hp:=hp.drewN nq
  replace hM:=hM.drewN nq
  replace hb0:=T.below_drew hb0 nq
  clear c78 g0 g1 lp lG hG
  revert hp hM hb0
  generalize u2.drewN nq=u3
  intro hp hM hb0
  go_wp2_with (first
   |((with_reducible refine ze rfl _ rfl ?_);refine⟨_,_,rfl,(by first|assumption|exact hp.alloc _),?_⟩)
   |((with_reducible refine zn rfl _ _ rfl ?_);refine⟨_,c,rfl,rfl,⟨_,heap_alloc_new _ _,zS⟩,?_⟩;intro V hV hq;have hne:=hp.lt;have hne1:=hM.lt;replace hp:=hV.pos (hp.alloc _) om;replace hM:=hV.row (hM.alloc _) (by have:=hM.lt;omega);replace hb0:=hV.below (hb0.alloc hb0.size _) hb0.size;clear hV)
   |((with_reducible refine zB rfl _ _ _ rfl ?_);refine⟨_,_,_,_,_,rfl,rfl,hq,om,(by first|exact zk hk|exact zk hs64),size_u8,?_⟩;intro V hV hq2;replace hp:=hV.pos hp om;replace hM:=hV.row hM om;replace hb0:=hV.below hb0 om;clear hV hq;have hq:=hq2;clear hq2)
   |(go_at_call 197;refine(zan (T.bare c k s) _ hqb).mono ?_;rintro e u4 ⟨rfl,hb⟩;replace hp:=hp.below hb;replace hM:=hM.below hb;replace hq:PosAt u4 _ (T.bare c k s):=hq.below hb;replace hb0:=za hb0 hb;clear hb;have l4:=hp.lt;have h78:=(hp.alloc (.cells #[.int .u64 (U (S.all (T.bare c k s)))] 23)).cell (i:=78) dc;rw [hct,show pk 78= .u8 from rfl]at h78)
   |(go_at_call 134;refine(zO c _ _ _ hcb).mono ?_;rintro e u5 ⟨rfl,hb⟩;have hN:=(RowAt.new _ _ _).below hb;replace hp:=(hp.alloc _).below hb;replace hM:=(hM.alloc _).below hb;replace hq:=(hq.alloc _).below hb;replace hb0:=za (hb0.alloc hb0.size _) hb;clear hb))
  have hO:=RowAt.new u5 #[.int .u64 (U (S.of c 1 6))] 23
  replace hp:=hp.alloc (.cells #[.int .u64 (U (S.of c 1 6))] 23)
  replace hM:=hM.alloc (.cells #[.int .u64 (U (S.of c 1 6))] 23)
  replace hq:=hq.alloc (.cells #[.int .u64 (U (S.of c 1 6))] 23)
  replace hN:=hN.alloc (.cells #[.int .u64 (U (S.of c 1 6))] 23)
  replace hb0:=hb0.alloc hb0.size (.cells #[.int .u64 (U (S.of c 1 6))] 23)
  clear h78
  revert hO hp hM hq hN hb0
  generalize u5.alloc (.cells #[.int .u64 (U (S.of c 1 6))] 23)=u6
  intro hO hp hM hq hN hb0
  refine(zaj k 2 u4.heap.size (T.emptyB c k s) _ hk dc (fun x hx W hb=>zaw x u4.heap.size _ _ W hx ((hN.below hb).cell 0) rfl)).mono ?_
  rintro e u7 ⟨rfl,hb⟩
  replace hO:=hO.below hb
  replace hp:=hp.below hb
  replace hM:=hM.below hb
  replace hq:=hq.below hb
  replace hN:=hN.below hb
  replace hb0:=za hb0 hb
  clear hb
  cases v1:(T.seg k 2).all fun x=>T.emptyB c k s x.val
  ·go_wp2_with (first
    |((with_reducible refine zb rfl _ _ _ rfl ?_);refine⟨w.heap.size+1,_,_,rfl,rfl,⟨_,hM.heap,rfl⟩,size_Move,T.move_one _ _ _ _ _,?_⟩;intro V hV hMV;replace hb0:=hV.below hb0 (Nat.le_succ _)))
   have hok:T.mayOk c 0 1 k s=false:=by unfold T.mayOk;rw [show T.kg 0 1=2 from rfl,v1];rfl
   exact bodyPost_ret (v:= .tuple #[.agg #[.int .i8 (k:Int),.int .i8 (s:Int),.int .u8 0,.int .u8 0,.bool true],.bool false]) (results_cell_tmp results195 _ _ (w.heap.size+1) 47 _ _ _ rfl rfl hMV underlying47 rfl size_Move) rfl ⟨by rw [hok],hb0⟩
  ·go_wp2_with fail
   refine(zaj s 3 u4.heap.size (T.emptyB c k s) _ hs64 dc (fun x hx W hb=>zaw x u4.heap.size _ _ W hx ((hN.below hb).cell 0) rfl)).mono ?_
   rintro e u8 ⟨rfl,hb⟩
   replace hO:=hO.below hb
   replace hp:=hp.below hb
   replace hM:=hM.below hb
   replace hq:=hq.below hb
   replace hN:=hN.below hb
   replace hb0:=za hb0 hb
   clear hb
   cases v2:(T.seg s 3).all fun x=>T.emptyB c k s x.val
   ·go_wp2_with (first
     |((with_reducible refine zb rfl _ _ _ rfl ?_);refine⟨w.heap.size+1,_,_,rfl,rfl,⟨_,hM.heap,rfl⟩,size_Move,T.move_one _ _ _ _ _,?_⟩;intro V hV hMV;replace hb0:=hV.below hb0 (Nat.le_succ _)))
    have hok:T.mayOk c 0 1 k s=false:=by unfold T.mayOk;rw [show T.kg 0 1=2 from rfl,show T.rg 0 1=3 from rfl,v1,v2];rfl
    exact bodyPost_ret (v:= .tuple #[.agg #[.int .i8 (k:Int),.int .i8 (s:Int),.int .u8 0,.int .u8 0,.bool true],.bool false]) (results_cell_tmp results195 _ _ (w.heap.size+1) 47 _ _ _ rfl rfl hMV underlying47 rfl size_Move) rfl ⟨by rw [hok],hb0⟩
   ·go_wp2_with fail
    refine(zb7 k 2 w.heap.size u5.heap.size u3.heap.size (T.safeB c 0 k s) _ hk dc (fun x _ W hb=>zb1 x 0 w.heap.size u5.heap.size u3.heap.size c (T.bare c k s) _ W dc hct hqb (HT W (za hb0 hb)) (hp.below hb) ((hO.below hb).cell 0) (hq.below hb))).mono ?_
    rintro e u9 ⟨rfl,hb⟩
    replace hO:=hO.below hb
    replace hp:=hp.below hb
    replace hM:=hM.below hb
    replace hq:=hq.below hb
    replace hN:=hN.below hb
    replace hb0:=za hb0 hb
    clear hb
    have hok:T.mayOk c 0 1 k s=((T.seg k 2).all fun x=>T.safeB c 0 k s x.val):=by unfold T.mayOk;rw [show T.kg 0 1=2 from rfl,show T.rg 0 1=3 from rfl,v1,v2];rfl
    generalize((T.seg k 2).all fun x=>T.safeB c 0 k s x.val)=v3 at hok⊢
    go_wp2_with (first
      |((with_reducible refine zb rfl _ _ _ rfl ?_);refine⟨w.heap.size+1,_,_,rfl,rfl,⟨_,hM.heap,rfl⟩,size_Move,T.move_one _ _ _ _ _,?_⟩;intro V hV hMV;replace hb0:=hV.below hb0 (Nat.le_succ _)))
    exact bodyPost_ret (v:= .tuple #[.agg #[.int .i8 (k:Int),.int .i8 (s:Int),.int .u8 0,.int .u8 0,.bool true],.bool v3]) (results_cell_tmp results195 _ _ (w.heap.size+1) 47 _ _ _ rfl rfl hMV underlying47 rfl size_Move) rfl ⟨by rw [hok],hb0⟩
 ·go_enter func195,ntmps195
  go_wp2_with (first
   |((with_reducible refine ze rfl _ rfl ?_);refine⟨_,_,rfl,(by first|assumption|exact hp.alloc _),?_⟩)
   |((with_reducible refine zn rfl _ _ rfl ?_);refine⟨_,c,rfl,rfl,⟨_,heap_alloc_new _ _,zS⟩,?_⟩;intro V hV hq;have hne:=hp.lt;have hne1:=hM.lt;replace hp:=hV.pos (hp.alloc _) om;replace hM:=hV.row (hM.alloc _) (by have:=hM.lt;omega);replace hb0:=hV.below (hb0.alloc hb0.size _) hb0.size;clear hV)
   |(go_at_call 276;refine(R1 _).mono ?_;rintro e u ⟨rfl,hb⟩;replace hp:=hp.below hb;replace hM:=hM.below hb;replace hb0:=za hb0 hb;clear hb;have h78:=hp.cell (i:=78) dc;rw [hct,show pk 78= .u8 from rfl]at h78)
   |(go_at_call 199;refine(zam _).mono ?_;rintro e u ⟨rfl,hb⟩;replace hp:=hp.below hb;replace hM:=hM.below hb;replace hb0:=za hb0 hb;clear hb;have h78:=hp.cell (i:=78) dc;rw [hct,show pk 78= .u8 from rfl]at h78)
   |(go_at_call 194;refine(zA 1 _ dc).mono ?_;rintro e u ⟨rfl,rfl⟩))
  have hG:=RowAt.new u #[.int .i64 6,.int .i64 5] 236
  replace hp:=hp.alloc (.cells #[.int .i64 6,.int .i64 5] 236)
  replace hM:=hM.alloc (.cells #[.int .i64 6,.int .i64 5] 236)
  have hgu:=hb0.size
  replace hb0:=hb0.alloc hb0.size (.cells #[.int .i64 6,.int .i64 5] 236)
  have c78:=hp.cell (i:=78) dc
  rw [hct,show pk 78= .u8 from rfl]at c78
  have g0:=hG.cell 0
  have g1:=hG.cell 1
  simp only [List.getElem?_toArray,List.getElem?_cons_zero,List.getElem?_cons_succ]at g0 g1
  have lp:=hp.lt
  have lG:=hG.lt
  revert hp hM hb0 c78 g0 g1 lp lG hG
  generalize u.alloc (.cells #[.int .i64 6,.int .i64 5] 236)=u2
  intro hG hp hM hb0 c78 g0 g1 lp lG
  go_quiet ((go_at_call 194;exact zJ (zA 1 _ dc)))
  replace hp:=hp.drewN nq
  replace hM:=hM.drewN nq
  replace hb0:=T.below_drew hb0 nq
  clear c78 g0 g1 lp lG hG
  revert hp hM hb0
  generalize u2.drewN nq=u3
  intro hp hM hb0
  go_wp2_with (first
   |((with_reducible refine ze rfl _ rfl ?_);refine⟨_,_,rfl,(by first|assumption|exact hp.alloc _),?_⟩)
   |((with_reducible refine zn rfl _ _ rfl ?_);refine⟨_,c,rfl,rfl,⟨_,heap_alloc_new _ _,zS⟩,?_⟩;intro V hV hq;have hne:=hp.lt;have hne1:=hM.lt;replace hp:=hV.pos (hp.alloc _) om;replace hM:=hV.row (hM.alloc _) (by have:=hM.lt;omega);replace hb0:=hV.below (hb0.alloc hb0.size _) hb0.size;clear hV)
   |((with_reducible refine zB rfl _ _ _ rfl ?_);refine⟨_,_,_,_,_,rfl,rfl,hq,om,(by first|exact zk hk|exact zk hs64),size_u8,?_⟩;intro V hV hq2;replace hp:=hV.pos hp om;replace hM:=hV.row hM om;replace hb0:=hV.below hb0 om;clear hV hq;have hq:=hq2;clear hq2)
   |(go_at_call 197;refine(zan (T.bare c k s) _ hqb).mono ?_;rintro e u4 ⟨rfl,hb⟩;replace hp:=hp.below hb;replace hM:=hM.below hb;replace hq:PosAt u4 _ (T.bare c k s):=hq.below hb;replace hb0:=za hb0 hb;clear hb;have l4:=hp.lt;have h78:=(hp.alloc (.cells #[.int .u64 (U (S.all (T.bare c k s)))] 23)).cell (i:=78) dc;rw [hct,show pk 78= .u8 from rfl]at h78)
   |(go_at_call 134;refine(zO c _ _ _ hcb).mono ?_;rintro e u5 ⟨rfl,hb⟩;have hN:=(RowAt.new _ _ _).below hb;replace hp:=(hp.alloc _).below hb;replace hM:=(hM.alloc _).below hb;replace hq:=(hq.alloc _).below hb;replace hb0:=za (hb0.alloc hb0.size _) hb;clear hb))
  have hO:=RowAt.new u5 #[.int .u64 (U (S.of c 0 6))] 23
  replace hp:=hp.alloc (.cells #[.int .u64 (U (S.of c 0 6))] 23)
  replace hM:=hM.alloc (.cells #[.int .u64 (U (S.of c 0 6))] 23)
  replace hq:=hq.alloc (.cells #[.int .u64 (U (S.of c 0 6))] 23)
  replace hN:=hN.alloc (.cells #[.int .u64 (U (S.of c 0 6))] 23)
  replace hb0:=hb0.alloc hb0.size (.cells #[.int .u64 (U (S.of c 0 6))] 23)
  clear h78
  revert hO hp hM hq hN hb0
  generalize u5.alloc (.cells #[.int .u64 (U (S.of c 0 6))] 23)=u6
  intro hO hp hM hq hN hb0
  refine(zaj k 62 u4.heap.size (T.emptyB c k s) _ hk dc (fun x hx W hb=>zaw x u4.heap.size _ _ W hx ((hN.below hb).cell 0) rfl)).mono ?_
  rintro e u7 ⟨rfl,hb⟩
  replace hO:=hO.below hb
  replace hp:=hp.below hb
  replace hM:=hM.below hb
  replace hq:=hq.below hb
  replace hN:=hN.below hb
  replace hb0:=za hb0 hb
  clear hb
  cases v1:(T.seg k 62).all fun x=>T.emptyB c k s x.val
  ·go_wp2_with (first
    |((with_reducible refine zb rfl _ _ _ rfl ?_);refine⟨w.heap.size+1,_,_,rfl,rfl,⟨_,hM.heap,rfl⟩,size_Move,T.move_one _ _ _ _ _,?_⟩;intro V hV hMV;replace hb0:=hV.below hb0 (Nat.le_succ _)))
   have hok:T.mayOk c 1 0 k s=false:=by unfold T.mayOk;rw [show T.kg 1 0=62 from rfl,v1];rfl
   exact bodyPost_ret (v:= .tuple #[.agg #[.int .i8 (k:Int),.int .i8 (s:Int),.int .u8 0,.int .u8 0,.bool true],.bool false]) (results_cell_tmp results195 _ _ (w.heap.size+1) 47 _ _ _ rfl rfl hMV underlying47 rfl size_Move) rfl ⟨by rw [hok],hb0⟩
  ·go_wp2_with fail
   refine(zaj s 61 u4.heap.size (T.emptyB c k s) _ hs64 dc (fun x hx W hb=>zaw x u4.heap.size _ _ W hx ((hN.below hb).cell 0) rfl)).mono ?_
   rintro e u8 ⟨rfl,hb⟩
   replace hO:=hO.below hb
   replace hp:=hp.below hb
   replace hM:=hM.below hb
   replace hq:=hq.below hb
   replace hN:=hN.below hb
   replace hb0:=za hb0 hb
   clear hb
   cases v2:(T.seg s 61).all fun x=>T.emptyB c k s x.val
   ·go_wp2_with (first
     |((with_reducible refine zb rfl _ _ _ rfl ?_);refine⟨w.heap.size+1,_,_,rfl,rfl,⟨_,hM.heap,rfl⟩,size_Move,T.move_one _ _ _ _ _,?_⟩;intro V hV hMV;replace hb0:=hV.below hb0 (Nat.le_succ _)))
    have hok:T.mayOk c 1 0 k s=false:=by unfold T.mayOk;rw [show T.kg 1 0=62 from rfl,show T.rg 1 0=61 from rfl,v1,v2];rfl
    exact bodyPost_ret (v:= .tuple #[.agg #[.int .i8 (k:Int),.int .i8 (s:Int),.int .u8 0,.int .u8 0,.bool true],.bool false]) (results_cell_tmp results195 _ _ (w.heap.size+1) 47 _ _ _ rfl rfl hMV underlying47 rfl size_Move) rfl ⟨by rw [hok],hb0⟩
   ·go_wp2_with fail
    refine(zb7 k 62 w.heap.size u5.heap.size u3.heap.size (T.safeB c 1 k s) _ hk dc (fun x _ W hb=>zb1 x 1 w.heap.size u5.heap.size u3.heap.size c (T.bare c k s) _ W dc hct hqb (HT W (za hb0 hb)) (hp.below hb) ((hO.below hb).cell 0) (hq.below hb))).mono ?_
    rintro e u9 ⟨rfl,hb⟩
    replace hO:=hO.below hb
    replace hp:=hp.below hb
    replace hM:=hM.below hb
    replace hq:=hq.below hb
    replace hN:=hN.below hb
    replace hb0:=za hb0 hb
    clear hb
    have hok:T.mayOk c 1 0 k s=((T.seg k 62).all fun x=>T.safeB c 1 k s x.val):=by unfold T.mayOk;rw [show T.kg 1 0=62 from rfl,show T.rg 1 0=61 from rfl,v1,v2];rfl
    generalize((T.seg k 62).all fun x=>T.safeB c 1 k s x.val)=v3 at hok⊢
    go_wp2_with (first
      |((with_reducible refine zb rfl _ _ _ rfl ?_);refine⟨w.heap.size+1,_,_,rfl,rfl,⟨_,hM.heap,rfl⟩,size_Move,T.move_one _ _ _ _ _,?_⟩;intro V hV hMV;replace hb0:=hV.below hb0 (Nat.le_succ _)))
    exact bodyPost_ret (v:= .tuple #[.agg #[.int .i8 (k:Int),.int .i8 (s:Int),.int .u8 0,.int .u8 0,.bool true],.bool v3]) (results_cell_tmp results195 _ _ (w.heap.size+1) 47 _ _ _ rfl rfl hMV underlying47 rfl size_Move) rfl ⟨by rw [hok],hb0⟩
 ·go_enter func195,ntmps195
  go_wp2_with (first
   |((with_reducible refine ze rfl _ rfl ?_);refine⟨_,_,rfl,(by first|assumption|exact hp.alloc _),?_⟩)
   |((with_reducible refine zn rfl _ _ rfl ?_);refine⟨_,c,rfl,rfl,⟨_,heap_alloc_new _ _,zS⟩,?_⟩;intro V hV hq;have hne:=hp.lt;have hne1:=hM.lt;replace hp:=hV.pos (hp.alloc _) om;replace hM:=hV.row (hM.alloc _) (by have:=hM.lt;omega);replace hb0:=hV.below (hb0.alloc hb0.size _) hb0.size;clear hV)
   |(go_at_call 276;refine(R1 _).mono ?_;rintro e u ⟨rfl,hb⟩;replace hp:=hp.below hb;replace hM:=hM.below hb;replace hb0:=za hb0 hb;clear hb;have h78:=hp.cell (i:=78) dc;rw [hct,show pk 78= .u8 from rfl]at h78)
   |(go_at_call 199;refine(zam _).mono ?_;rintro e u ⟨rfl,hb⟩;replace hp:=hp.below hb;replace hM:=hM.below hb;replace hb0:=za hb0 hb;clear hb;have h78:=hp.cell (i:=78) dc;rw [hct,show pk 78= .u8 from rfl]at h78)
   |(go_at_call 194;refine(zA 1 _ dc).mono ?_;rintro e u ⟨rfl,rfl⟩))
  have hG:=RowAt.new u #[.int .i64 2,.int .i64 3] 236
  replace hp:=hp.alloc (.cells #[.int .i64 2,.int .i64 3] 236)
  replace hM:=hM.alloc (.cells #[.int .i64 2,.int .i64 3] 236)
  have hgu:=hb0.size
  replace hb0:=hb0.alloc hb0.size (.cells #[.int .i64 2,.int .i64 3] 236)
  have c78:=hp.cell (i:=78) dc
  rw [hct,show pk 78= .u8 from rfl]at c78
  have g0:=hG.cell 0
  have g1:=hG.cell 1
  simp only [List.getElem?_toArray,List.getElem?_cons_zero,List.getElem?_cons_succ]at g0 g1
  have lp:=hp.lt
  have lG:=hG.lt
  revert hp hM hb0 c78 g0 g1 lp lG hG
  generalize u.alloc (.cells #[.int .i64 2,.int .i64 3] 236)=u2
  intro hG hp hM hb0 c78 g0 g1 lp lG
  go_quiet ((go_at_call 194;exact zJ (zA 1 _ dc)))
  replace hp:=hp.drewN nq
  replace hM:=hM.drewN nq
  replace hb0:=T.below_drew hb0 nq
  clear c78 g0 g1 lp lG hG
  revert hp hM hb0
  generalize u2.drewN nq=u3
  intro hp hM hb0
  go_wp2_with (first
   |((with_reducible refine ze rfl _ rfl ?_);refine⟨_,_,rfl,(by first|assumption|exact hp.alloc _),?_⟩)
   |((with_reducible refine zn rfl _ _ rfl ?_);refine⟨_,c,rfl,rfl,⟨_,heap_alloc_new _ _,zS⟩,?_⟩;intro V hV hq;have hne:=hp.lt;have hne1:=hM.lt;replace hp:=hV.pos (hp.alloc _) om;replace hM:=hV.row (hM.alloc _) (by have:=hM.lt;omega);replace hb0:=hV.below (hb0.alloc hb0.size _) hb0.size;clear hV)
   |((with_reducible refine zB rfl _ _ _ rfl ?_);refine⟨_,_,_,_,_,rfl,rfl,hq,om,(by first|exact zk hk|exact zk hs64),size_u8,?_⟩;intro V hV hq2;replace hp:=hV.pos hp om;replace hM:=hV.row hM om;replace hb0:=hV.below hb0 om;clear hV hq;have hq:=hq2;clear hq2)
   |(go_at_call 197;refine(zan (T.bare c k s) _ hqb).mono ?_;rintro e u4 ⟨rfl,hb⟩;replace hp:=hp.below hb;replace hM:=hM.below hb;replace hq:PosAt u4 _ (T.bare c k s):=hq.below hb;replace hb0:=za hb0 hb;clear hb;have l4:=hp.lt;have h78:=(hp.alloc (.cells #[.int .u64 (U (S.all (T.bare c k s)))] 23)).cell (i:=78) dc;rw [hct,show pk 78= .u8 from rfl]at h78)
   |(go_at_call 134;refine(zO c _ _ _ hcb).mono ?_;rintro e u5 ⟨rfl,hb⟩;have hN:=(RowAt.new _ _ _).below hb;replace hp:=(hp.alloc _).below hb;replace hM:=(hM.alloc _).below hb;replace hq:=(hq.alloc _).below hb;replace hb0:=za (hb0.alloc hb0.size _) hb;clear hb))
  have hO:=RowAt.new u5 #[.int .u64 (U (S.of c 0 6))] 23
  replace hp:=hp.alloc (.cells #[.int .u64 (U (S.of c 0 6))] 23)
  replace hM:=hM.alloc (.cells #[.int .u64 (U (S.of c 0 6))] 23)
  replace hq:=hq.alloc (.cells #[.int .u64 (U (S.of c 0 6))] 23)
  replace hN:=hN.alloc (.cells #[.int .u64 (U (S.of c 0 6))] 23)
  replace hb0:=hb0.alloc hb0.size (.cells #[.int .u64 (U (S.of c 0 6))] 23)
  clear h78
  revert hO hp hM hq hN hb0
  generalize u5.alloc (.cells #[.int .u64 (U (S.of c 0 6))] 23)=u6
  intro hO hp hM hq hN hb0
  refine(zaj k 58 u4.heap.size (T.emptyB c k s) _ hk dc (fun x hx W hb=>zaw x u4.heap.size _ _ W hx ((hN.below hb).cell 0) rfl)).mono ?_
  rintro e u7 ⟨rfl,hb⟩
  replace hO:=hO.below hb
  replace hp:=hp.below hb
  replace hM:=hM.below hb
  replace hq:=hq.below hb
  replace hN:=hN.below hb
  replace hb0:=za hb0 hb
  clear hb
  cases v1:(T.seg k 58).all fun x=>T.emptyB c k s x.val
  ·go_wp2_with (first
    |((with_reducible refine zb rfl _ _ _ rfl ?_);refine⟨w.heap.size+1,_,_,rfl,rfl,⟨_,hM.heap,rfl⟩,size_Move,T.move_one _ _ _ _ _,?_⟩;intro V hV hMV;replace hb0:=hV.below hb0 (Nat.le_succ _)))
   have hok:T.mayOk c 1 1 k s=false:=by unfold T.mayOk;rw [show T.kg 1 1=58 from rfl,v1];rfl
   exact bodyPost_ret (v:= .tuple #[.agg #[.int .i8 (k:Int),.int .i8 (s:Int),.int .u8 0,.int .u8 0,.bool true],.bool false]) (results_cell_tmp results195 _ _ (w.heap.size+1) 47 _ _ _ rfl rfl hMV underlying47 rfl size_Move) rfl ⟨by rw [hok],hb0⟩
  ·go_wp2_with fail
   refine(zaj s 59 u4.heap.size (T.emptyB c k s) _ hs64 dc (fun x hx W hb=>zaw x u4.heap.size _ _ W hx ((hN.below hb).cell 0) rfl)).mono ?_
   rintro e u8 ⟨rfl,hb⟩
   replace hO:=hO.below hb
   replace hp:=hp.below hb
   replace hM:=hM.below hb
   replace hq:=hq.below hb
   replace hN:=hN.below hb
   replace hb0:=za hb0 hb
   clear hb
   cases v2:(T.seg s 59).all fun x=>T.emptyB c k s x.val
   ·go_wp2_with (first
     |((with_reducible refine zb rfl _ _ _ rfl ?_);refine⟨w.heap.size+1,_,_,rfl,rfl,⟨_,hM.heap,rfl⟩,size_Move,T.move_one _ _ _ _ _,?_⟩;intro V hV hMV;replace hb0:=hV.below hb0 (Nat.le_succ _)))
    have hok:T.mayOk c 1 1 k s=false:=by unfold T.mayOk;rw [show T.kg 1 1=58 from rfl,show T.rg 1 1=59 from rfl,v1,v2];rfl
    exact bodyPost_ret (v:= .tuple #[.agg #[.int .i8 (k:Int),.int .i8 (s:Int),.int .u8 0,.int .u8 0,.bool true],.bool false]) (results_cell_tmp results195 _ _ (w.heap.size+1) 47 _ _ _ rfl rfl hMV underlying47 rfl size_Move) rfl ⟨by rw [hok],hb0⟩
   ·go_wp2_with fail
    refine(zb7 k 58 w.heap.size u5.heap.size u3.heap.size (T.safeB c 1 k s) _ hk dc (fun x _ W hb=>zb1 x 1 w.heap.size u5.heap.size u3.heap.size c (T.bare c k s) _ W dc hct hqb (HT W (za hb0 hb)) (hp.below hb) ((hO.below hb).cell 0) (hq.below hb))).mono ?_
    rintro e u9 ⟨rfl,hb⟩
    replace hO:=hO.below hb
    replace hp:=hp.below hb
    replace hM:=hM.below hb
    replace hq:=hq.below hb
    replace hN:=hN.below hb
    replace hb0:=za hb0 hb
    clear hb
    have hok:T.mayOk c 1 1 k s=((T.seg k 58).all fun x=>T.safeB c 1 k s x.val):=by unfold T.mayOk;rw [show T.kg 1 1=58 from rfl,show T.rg 1 1=59 from rfl,v1,v2];rfl
    generalize((T.seg k 58).all fun x=>T.safeB c 1 k s x.val)=v3 at hok⊢
    go_wp2_with (first
      |((with_reducible refine zb rfl _ _ _ rfl ?_);refine⟨w.heap.size+1,_,_,rfl,rfl,⟨_,hM.heap,rfl⟩,size_Move,T.move_one _ _ _ _ _,?_⟩;intro V hV hMV;replace hb0:=hV.below hb0 (Nat.le_succ _)))
    exact bodyPost_ret (v:= .tuple #[.agg #[.int .i8 (k:Int),.int .i8 (s:Int),.int .u8 0,.int .u8 0,.bool true],.bool v3]) (results_cell_tmp results195 _ _ (w.heap.size+1) 47 _ _ _ rfl rfl hMV underlying47 rfl size_Move) rfl ⟨by rw [hok],hb0⟩
theorem zeu(c:Nat→Int)(d k:Nat)(r:Int)(w:World)
  (hr:∀W,cB 276 #[.agg (posC c),.int .i64 (k:Int),.int .i64 (d:Int)] W (.tuple #[.int .i64 r,.bool false])):
  cB 195 #[.agg (posC c),.int .i64 (k:Int),.int .i64 (d:Int)] w (.tuple #[.agg #[.int .i8 0,.int .i8 0,.int .u8 0,.int .u8 0,.bool false],.bool false]):=by
 have hb0:Below w.heap.size w ((w.alloc (.cells (posC c) 31)).alloc (.cells #[.int .i8 0,.int .i8 0,.int .u8 0,.int .u8 0,.bool false] 47)):=bA.alloc sp _
 have hp:=(PosAt.new w c).alloc (.cells #[.int .i8 0,.int .i8 0,.int .u8 0,.int .u8 0,.bool false] 47)
 have hM:RowAt ((w.alloc (.cells (posC c) 31)).alloc (.cells #[.int .i8 0,.int .i8 0,.int .u8 0,.int .u8 0,.bool false] 47)) (w.heap.size+1) 47 #[.int .i8 0,.int .i8 0,.int .u8 0,.int .u8 0,.bool false]:=by
  have:=RowAt.new (w.alloc (.cells (posC c) 31)) #[.int .i8 0,.int .i8 0,.int .u8 0,.int .u8 0,.bool false] 47
  rwa [World.size_alloc]at this
 have R1:=hid hr
 clear hr
 go_enter func195,ntmps195
 go_wp2_with (first
  |((with_reducible refine ze rfl _ rfl ?_);refine⟨_,_,rfl,(by first|assumption|exact hp.alloc _),?_⟩)
  |((with_reducible refine zb rfl _ _ _ rfl ?_);refine⟨w.heap.size+1,_,_,rfl,rfl,⟨_,hM.heap,rfl⟩,size_Move,T.move_one _ _ _ _ _,?_⟩;intro V hV hMV;replace hb0:=hV.below hb0 (Nat.le_succ _))
  |(go_at_call 276;refine(R1 _).mono ?_;rintro e u ⟨rfl,hb⟩;replace hp:=hp.below hb;replace hM:=hM.below hb;replace hb0:=za hb0 hb;clear hb))
 exact bodyPost_ret (v:= .tuple #[.agg #[.int .i8 0,.int .i8 0,.int .u8 0,.int .u8 0,.bool false],.bool false]) (results_cell_tmp results195 _ _ (w.heap.size+1) 47 _ _ _ rfl rfl hMV underlying47 rfl size_Move) rfl ⟨rfl,hb0⟩
end Go.Proofs.YtbakeajgolhkgaaGreatDoor
