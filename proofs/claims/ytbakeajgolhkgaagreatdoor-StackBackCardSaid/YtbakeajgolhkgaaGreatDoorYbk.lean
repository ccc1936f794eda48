import Derived.Test.YtbakeajgolhkgaaGreatDoorYbh
set_option maxRecDepth 100000
set_option maxHeartbeats 8000000
open Go.Lib (hid)
namespace Go.Proofs.YtbakeajgolhkgaaGreatDoor
open Go.Proofs.Tryz
open Go.RowKit Go.Sort
attribute [local go_sem] Oper.semAt_some
theorem PMv.other{w W W':World}{g e:Nat}{c:Nat→Int}{m:Array Value}(h:PMv w g c m W)(hP:Put e W W')(he:g+1<e):PMv w g c m W':=
 ⟨hP.pos h.p om,hP.row h.m om,hP.below h.below om⟩
theorem zs{P:Program}{ops:Array Oper}{rest:List Oper}{o:Oper}{a:Act}{w:World}{Q:Exit→Act→World→Prop}(hw:Region.wanted o (yielded ops a.tmps)=true)(ty:TypeId)(x:Operand)(ho:o.op= .load ty x){d:TypeDesc}(hu:P.underlying ty=some d)(hd:(match d with| .struct _| .array _ _=>true|_=>false)=true)
  (h:∃(g:Nat) (T:TypeId) (cs:Array Value),a.eval x= .pointer (some ⟨g,0,none⟩)∧RowAt w g T cs∧(P.info? ty).map (·.size)=some cs.size∧wpList P ops Q rest (a.put o.dst (.agg cs)) w):wpList P ops Q (o::rest) a w:=by
 obtain⟨g,T,cs,hx,hp,hi,h⟩:=h
 refine wpList_step fun K hK=> ?_
 rw [if_pos hw]
 exact wp_load_row ty x ho g hx T cs (0,0) d hp.heap hu hd hi (hK _ _ h)
theorem idx_goals0(w:World):(Instr.index 27 (.agg #[.int .i8 6,.int .i8 2]) (.int .i64 0)).run prog w= .ok (.int .i8 6) w:=by kernel_rfl
theorem idx_goals1(w:World):(Instr.index 27 (.agg #[.int .i8 6,.int .i8 2]) (.int .i64 1)).run prog w= .ok (.int .i8 2) w:=by kernel_rfl
namespace Ps
structure Ok (c:Nat→Int) (t:Int) (k r:Nat):Prop where
 v:c 0=0
 t:c 78=t
 king:M.stands c k 6=true
 r0:c r=7
 r1:c (r+1)=0
end Ps
theorem MvRes.start(w:World)(c:Nat→Int):MvRes w w.heap.size c ((w.alloc (.cells (posC c) 31)).alloc (.cells #[.int .i8 0,.int .i8 0,.int .u8 0,.int .u8 0,.bool false] 47)):=
 ⟨(PosAt.new w c).alloc _,by have:=RowAt.new (w.alloc (.cells (posC c) 31)) #[.int .i8 0,.int .i8 0,.int .u8 0,.int .u8 0,.bool false] 47;rwa [World.size_alloc]at this,bA.alloc sp _⟩
theorem zaI(c:Nat→Int)(w:World)(h:Ps.Ok c 0 4 79):
  cB 330 #[.agg (posC c),.int .i64 0] w (.tuple #[.agg (movC 4 7 0 0 true),.bool true]):=by
 have h0:=MvRes.start w c
 have HHo:Hid (∀W,cB 358 #[.agg (posC c)] W (.int .i8 0)):=hid (fun W=>by
  have:=zZ c W (by rw [h.t];decide)
  rwa [show((N.home c:Nat):Int)=0 by unfold N.home;rw [h.t];rfl]at this)
 have HSt:Hid (∀W,cB 356 #[.agg (posC c),.int .i8 4,.int .u8 6] W (.bool true)):=hid (fun W=>by
  have:=zaL c 4 6 W dc (by rw [h.t];decide) (by rw [h.t];decide) dc dc
  rwa [h.king]at this)
 have c78:=h0.p.cell (i:=78) dc
 have cr:=h0.p.cell (i:=79) dc
 rw [show pk 78= .u8 from rfl,h.t]at c78
 rw [show pk 79= .i8 from rfl,show c 79=7 from h.r0]at cr
 have lb:=h0.p.lt
 have hs0:((w.alloc (.cells (posC c) 31)).alloc (.cells #[.int .i8 0,.int .i8 0,.int .u8 0,.int .u8 0,.bool false] 47)).heap.size=w.heap.size+2:=by simp
 have wk:IntKind.i8.wrap (0+7)=7:=by decide
 have wk2:IntKind.i8.wrap (0+4)=4:=by decide
 have H0:=hid h0
 have HO:=hid h
 clear h0 h
 go_enter func330,ntmps330
 go_upto_region 1 with fail
 refine rB ?_
 try simp only [Act.put]
 repeat(first
  |(go_big_quiet_want;refine zF _ rfl ⟨_,c,rfl,H0.p,?_⟩;simp only [Act.put,sA,sB,sC];go_big_quiet_on)
  |go_big_quiet_step (first
   |(go_at_call 358;(with_reducible exact zd (HHo.out _)))))
 refine wpQuiet_nil ?_
 intro w1 hb1
 have H1:=hid (H0.next hb1)
 clear hb1 H0 c78 cr lb hs0
 go_upto_region 3 with(first
  |((with_reducible refine ze rfl _ rfl ?_);refine⟨_,c,rfl,H1.p,?_⟩)
  |(go_at_call 358;(with_reducible refine(HHo.out _).mono ?_);rintro e w2 ⟨rfl,hb2⟩;have H2:=hid (H1.next hb2);clear hb2)
  |((with_reducible refine zb rfl 47 _ _ rfl ?_);refine⟨w2.heap.size,47,movC 4 7 0 0 true,rfl,rfl,⟨_,heap_alloc_new _ _,kr⟩,info_mvB _ _ _ _ _,one_mvB _ _ _ _ _,?_⟩;intro W3 hP hq;have H3:=hid (And.intro ((H2.next bA).other hP H2.res.lt) (And.intro hq H2.res.lt));clear hP hq))
 obtain⟨b,hb⟩:∃b,w2.heap.size=b:=⟨_,rfl⟩
 rw [hb]at H3⊢
 clear hb H2 H1
 have c0:=H3.1.p.cell (i:=0) dc
 rw [show pk 0= .u8 from rfl,HO.out.v]at c0
 go_wp2_with (first
  |((with_reducible refine zh rfl _ rfl ?_);refine⟨_,c,rfl,H3.1.p,?_⟩)
  |(go_at_call 356;(with_reducible refine(HSt.out _).mono ?_);rintro e w4 ⟨rfl,hb4⟩;have H4:=hid (And.intro (H3.1.next hb4) (And.intro (H3.2.1.below hb4) H3.2.2));clear hb4)
  |((with_reducible refine zj rfl 47 _ rfl underlying47 rfl ?_);refine⟨_,_,_,rfl,H4.2.1,info_mvB _ _ _ _ _,?_⟩)
  |((with_reducible refine zb rfl 47 _ _ rfl ?_);refine⟨w.heap.size+1,47,movC 4 7 0 0 true,rfl,rfl,⟨_,H4.1.res.heap,kr⟩,info_mvB _ _ _ _ _,one_mvB _ _ _ _ _,?_⟩;intro W9 hP9 hq9;have HB:=hid (hP9.below H4.1.below (Nat.le_succ _))))
 exact bodyPost_ret (zv results330 _ _ (w.heap.size+1) 47 _ (0,0) _ rfl hq9.heap underlying47 rfl (info_mvB _ _ _ _ _)) rfl ⟨rfl,HB⟩
theorem zbH(c:Nat→Int)(w:World)(h:Ps.Ok c 0 4 79):
  cB 330 #[.agg (posC c),.int .i64 1] w (.tuple #[.agg (movC 4 0 0 0 true),.bool true]):=by
 have h0:=MvRes.start w c
 have HHo:Hid (∀W,cB 358 #[.agg (posC c)] W (.int .i8 0)):=hid (fun W=>by
  have:=zZ c W (by rw [h.t];decide)
  rwa [show((N.home c:Nat):Int)=0 by unfold N.home;rw [h.t];rfl]at this)
 have HSt:Hid (∀W,cB 356 #[.agg (posC c),.int .i8 4,.int .u8 6] W (.bool true)):=hid (fun W=>by
  have:=zaL c 4 6 W dc (by rw [h.t];decide) (by rw [h.t];decide) dc dc
  rwa [h.king]at this)
 have c78:=h0.p.cell (i:=78) dc
 have cr:=h0.p.cell (i:=80) dc
 rw [show pk 78= .u8 from rfl,h.t]at c78
 rw [show pk 80= .i8 from rfl,show c 80=0 from h.r1]at cr
 have lb:=h0.p.lt
 have hs0:((w.alloc (.cells (posC c) 31)).alloc (.cells #[.int .i8 0,.int .i8 0,.int .u8 0,.int .u8 0,.bool false] 47)).heap.size=w.heap.size+2:=by simp
 have wk:IntKind.i8.wrap (0+0)=0:=by decide
 have wk2:IntKind.i8.wrap (0+4)=4:=by decide
 have H0:=hid h0
 have HO:=hid h
 clear h0 h
 go_enter func330,ntmps330
 go_upto_region 1 with fail
 refine rB ?_
 try simp only [Act.put]
 repeat(first
  |(go_big_quiet_want;refine zF _ rfl ⟨_,c,rfl,H0.p,?_⟩;simp only [Act.put,sA,sB,sC];go_big_quiet_on)
  |go_big_quiet_step (first
   |(go_at_call 358;(with_reducible exact zd (HHo.out _)))))
 refine wpQuiet_nil ?_
 intro w1 hb1
 have H1:=hid (H0.next hb1)
 clear hb1 H0 c78 cr lb hs0
 go_upto_region 3 with(first
  |((with_reducible refine ze rfl _ rfl ?_);refine⟨_,c,rfl,H1.p,?_⟩)
  |(go_at_call 358;(with_reducible refine(HHo.out _).mono ?_);rintro e w2 ⟨rfl,hb2⟩;have H2:=hid (H1.next hb2);clear hb2)
  |((with_reducible refine zb rfl 47 _ _ rfl ?_);refine⟨w2.heap.size,47,movC 4 0 0 0 true,rfl,rfl,⟨_,heap_alloc_new _ _,kr⟩,info_mvB _ _ _ _ _,one_mvB _ _ _ _ _,?_⟩;intro W3 hP hq;have H3:=hid (And.intro ((H2.next bA).other hP H2.res.lt) (And.intro hq H2.res.lt));clear hP hq))
 obtain⟨b,hb⟩:∃b,w2.heap.size=b:=⟨_,rfl⟩
 rw [hb]at H3⊢
 clear hb H2 H1
 have c0:=H3.1.p.cell (i:=0) dc
 rw [show pk 0= .u8 from rfl,HO.out.v]at c0
 go_wp2_with (first
  |((with_reducible refine zh rfl _ rfl ?_);refine⟨_,c,rfl,H3.1.p,?_⟩)
  |(go_at_call 356;(with_reducible refine(HSt.out _).mono ?_);rintro e w4 ⟨rfl,hb4⟩;have H4:=hid (And.intro (H3.1.next hb4) (And.intro (H3.2.1.below hb4) H3.2.2));clear hb4)
  |((with_reducible refine zj rfl 47 _ rfl underlying47 rfl ?_);refine⟨_,_,_,rfl,H4.2.1,info_mvB _ _ _ _ _,?_⟩)
  |((with_reducible refine zb rfl 47 _ _ rfl ?_);refine⟨w.heap.size+1,47,movC 4 0 0 0 true,rfl,rfl,⟨_,H4.1.res.heap,kr⟩,info_mvB _ _ _ _ _,one_mvB _ _ _ _ _,?_⟩;intro W9 hP9 hq9;have HB:=hid (hP9.below H4.1.below (Nat.le_succ _))))
 exact bodyPost_ret (zv results330 _ _ (w.heap.size+1) 47 _ (0,0) _ rfl hq9.heap underlying47 rfl (info_mvB _ _ _ _ _)) rfl ⟨rfl,HB⟩
theorem zdk(c:Nat→Int)(w:World)(h:Ps.Ok c 0 4 79):
  cB 328 #[.agg (posC c),.agg (movC 4 7 0 0 true)] w (.string (N.tx 4++N.tx 6)):=by
 have hP:=PMv.start w c (movC 4 7 0 0 true)
 have c0:=hP.p.cell (i:=0) dc
 rw [show pk 0= .u8 from rfl,h.v]at c0
 have HC0:Hid (∀W,cB 330 #[.agg (posC c),.int .i64 0] W (.tuple #[.agg (movC 4 7 0 0 true),.bool true])):=hid (fun W=>zaI c W h)
 have HHo:Hid (∀W,cB 358 #[.agg (posC c)] W (.int .i8 0)):=hid (fun W=>by
  have:=zZ c W (by rw [h.t];decide)
  rwa [show((N.home c:Nat):Int)=0 by unfold N.home;rw [h.t];rfl]at this)
 have HF:Hid (∀W,cB 357 #[.int .i8 4] W (.string (N.tx 4))):=hid (fun W=>zaa 4 W dc)
 have HX:Hid (∀W,cB 357 #[.int .i8 6] W (.string (N.tx 6))):=hid (fun W=>zaa 6 W dc)
 have HSx:=hid (show(N.tx 4).size+(N.tx 6).size≤9223372036854775807 from(by decide:2+2≤9223372036854775807))
 have wk:IntKind.i8.wrap (0+6)=6:=by decide
 have H0:=hid hP
 clear hP h
 obtain⟨x,h7⟩:∃x,N.tx 4=x:=⟨_,rfl⟩
 obtain⟨y,h8⟩:∃x,N.tx 6=x:=⟨_,rfl⟩
 rw [h7]at HF
 rw [h8]at HX
 rw [h7,h8]at HSx⊢
 clear h7 h8
 go_enter func328,ntmps328
 have hi0:=idx_goals0
 have hi1:=idx_goals1
 go_wp2_with (go_at_call 329;(with_reducible refine(zae _).mono ?_);rintro e wg ⟨rfl,hbg⟩;have HG:=hid (H0.next hbg);clear hbg)
 refine wp_loop_rounds 3 ?_
 rw [rounds_succ]
 go_upto_region 10 with(first
  |((with_reducible refine zh rfl _ rfl ?_);refine⟨_,c,rfl,HG.p,?_⟩)
  |(go_at_call 330;(with_reducible refine(HC0.out _).mono ?_);rintro e wc0 ⟨rfl,hbc⟩;have HK0:=hid (HG.next hbc);clear hbc)
  |((with_reducible refine zb rfl 47 _ _ rfl ?_);refine⟨wc0.heap.size,47,movC 4 7 0 0 true,rfl,rfl,⟨_,heap_alloc_new _ _,kr⟩,info_mvB _ _ _ _ _,one_mvB _ _ _ _ _,?_⟩;intro V0 hP hq;have HV0:=hid (And.intro ((HK0.next bA).other hP HK0.m.lt) hq);clear hP hq)
  |((with_reducible refine zs rfl 47 _ rfl underlying47 rfl ?_);refine⟨w.heap.size+1,_,_,rfl,HV0.1.m,info_mvB _ _ _ _ _,?_⟩)
  |((with_reducible refine zs rfl 47 _ rfl underlying47 rfl ?_);refine⟨_,_,_,rfl,HV0.2,info_mvB _ _ _ _ _,?_⟩)
  |((with_reducible refine zaq rfl _ _ _ rfl ?_);refine⟨(4,7,0,0,true),(4,7,0,0,true),rfl,rfl,?_⟩;rw [show((((4:Int),(7:Int),(0:Int),(0:Int),true):Mv)==(4,7,0,0,true))=true from by decide]))
 have q0:=HV0.1.m.cell 0
 rw [show(movC 4 7 0 0 true)[0]? =some (.int .i8 4)from rfl]at q0
 have lb2:=HV0.1.m.lt
 refine rB ?_
 try simp only [Act.put]
 repeat(first
  |(go_big_quiet_want;refine zF _ rfl ⟨_,c,rfl,HV0.1.p,?_⟩;simp only [Act.put,sA,sB,sC];go_big_quiet_on)
  |(go_big_quiet_want;refine zbu _ _ _ rfl ⟨x,y,rfl,rfl,HSx,?_⟩;simp only [Act.put,sA,sB,sC];go_big_quiet_on)
  |go_big_quiet_step (first
   |(go_at_call 357;(with_reducible exact zd (HF.out _)))
   |(go_at_call 358;(with_reducible exact zd (HHo.out _)))
   |(go_at_call 357;(with_reducible exact zd (HX.out _)))))
 refine wpQuiet_nil ?_
 intro w9 hb9
 have H9:=hid (HV0.1.next hb9)
 clear hb9
 go_wp2
 go_ret
 exact⟨rfl,H9.below⟩
theorem zdp(c:Nat→Int)(w:World)(h:Ps.Ok c 0 4 79):
  cB 328 #[.agg (posC c),.agg (movC 4 0 0 0 true)] w (.string (N.tx 4++N.tx 2)):=by
 have hP:=PMv.start w c (movC 4 0 0 0 true)
 have c0:=hP.p.cell (i:=0) dc
 rw [show pk 0= .u8 from rfl,h.v]at c0
 have HC0:Hid (∀W,cB 330 #[.agg (posC c),.int .i64 0] W (.tuple #[.agg (movC 4 7 0 0 true),.bool true])):=hid (fun W=>zaI c W h)
 have HC1:Hid (∀W,cB 330 #[.agg (posC c),.int .i64 1] W (.tuple #[.agg (movC 4 0 0 0 true),.bool true])):=hid (fun W=>zbH c W h)
 have HHo:Hid (∀W,cB 358 #[.agg (posC c)] W (.int .i8 0)):=hid (fun W=>by
  have:=zZ c W (by rw [h.t];decide)
  rwa [show((N.home c:Nat):Int)=0 by unfold N.home;rw [h.t];rfl]at this)
 have HF:Hid (∀W,cB 357 #[.int .i8 4] W (.string (N.tx 4))):=hid (fun W=>zaa 4 W dc)
 have HX:Hid (∀W,cB 357 #[.int .i8 2] W (.string (N.tx 2))):=hid (fun W=>zaa 2 W dc)
 have HSx:=hid (show(N.tx 4).size+(N.tx 2).size≤9223372036854775807 from(by decide:2+2≤9223372036854775807))
 have wk:IntKind.i8.wrap (0+2)=2:=by decide
 have H0:=hid hP
 clear hP h
 obtain⟨x,h7⟩:∃x,N.tx 4=x:=⟨_,rfl⟩
 obtain⟨y,h8⟩:∃x,N.tx 2=x:=⟨_,rfl⟩
 rw [h7]at HF
 rw [h8]at HX
 rw [h7,h8]at HSx⊢
 clear h7 h8
 go_enter func328,ntmps328
 have hi0:=idx_goals0
 have hi1:=idx_goals1
 go_wp2_with (go_at_call 329;(with_reducible refine(zae _).mono ?_);rintro e wg ⟨rfl,hbg⟩;have HG:=hid (H0.next hbg);clear hbg)
 refine wp_loop_rounds 3 ?_
 rw [rounds_succ]
 go_wp2_with (first
  |((with_reducible refine zh rfl _ rfl ?_);refine⟨_,c,rfl,HG.p,?_⟩)
  |(go_at_call 330;(with_reducible refine(HC0.out _).mono ?_);rintro e wc0 ⟨rfl,hbc⟩;have HK0:=hid (HG.next hbc);clear hbc)
  |((with_reducible refine zb rfl 47 _ _ rfl ?_);refine⟨wc0.heap.size,47,movC 4 7 0 0 true,rfl,rfl,⟨_,heap_alloc_new _ _,kr⟩,info_mvB _ _ _ _ _,one_mvB _ _ _ _ _,?_⟩;intro V0 hP hq;have HV0:=hid (And.intro ((HK0.next bA).other hP HK0.m.lt) hq);clear hP hq)
  |((with_reducible refine zs rfl 47 _ rfl underlying47 rfl ?_);refine⟨w.heap.size+1,_,_,rfl,HV0.1.m,info_mvB _ _ _ _ _,?_⟩)
  |((with_reducible refine zs rfl 47 _ rfl underlying47 rfl ?_);refine⟨_,_,_,rfl,HV0.2,info_mvB _ _ _ _ _,?_⟩)
  |((with_reducible refine zaq rfl _ _ _ rfl ?_);refine⟨(4,7,0,0,true),(4,0,0,0,true),rfl,rfl,?_⟩;rw [show((((4:Int),(7:Int),(0:Int),(0:Int),true):Mv)==(4,0,0,0,true))=false from by decide]))
 rw [rounds_succ]
 go_upto_region 10 with(first
  |((with_reducible refine zh rfl _ rfl ?_);refine⟨_,c,rfl,HV0.1.p,?_⟩)
  |(go_at_call 330;(with_reducible refine(HC1.out _).mono ?_);rintro e wc1 ⟨rfl,hbc⟩;have HK1:=hid (HV0.1.next hbc);clear hbc)
  |((with_reducible refine zb rfl 47 _ _ rfl ?_);refine⟨wc1.heap.size,47,movC 4 0 0 0 true,rfl,rfl,⟨_,heap_alloc_new _ _,kr⟩,info_mvB _ _ _ _ _,one_mvB _ _ _ _ _,?_⟩;intro V1 hP hq;have HV1:=hid (And.intro ((HK1.next bA).other hP HK1.m.lt) hq);clear hP hq)
  |((with_reducible refine zs rfl 47 _ rfl underlying47 rfl ?_);refine⟨w.heap.size+1,_,_,rfl,HV1.1.m,info_mvB _ _ _ _ _,?_⟩)
  |((with_reducible refine zs rfl 47 _ rfl underlying47 rfl ?_);refine⟨_,_,_,rfl,HV1.2,info_mvB _ _ _ _ _,?_⟩)
  |((with_reducible refine zaq rfl _ _ _ rfl ?_);refine⟨(4,0,0,0,true),(4,0,0,0,true),rfl,rfl,?_⟩;rw [show((((4:Int),(0:Int),(0:Int),(0:Int),true):Mv)==(4,0,0,0,true))=true from by decide]))
 have q0:=HV1.1.m.cell 0
 rw [show(movC 4 0 0 0 true)[0]? =some (.int .i8 4)from rfl]at q0
 have lb2:=HV1.1.m.lt
 refine rB ?_
 try simp only [Act.put]
 repeat(first
  |(go_big_quiet_want;refine zF _ rfl ⟨_,c,rfl,HV1.1.p,?_⟩;simp only [Act.put,sA,sB,sC];go_big_quiet_on)
  |(go_big_quiet_want;refine zbu _ _ _ rfl ⟨x,y,rfl,rfl,HSx,?_⟩;simp only [Act.put,sA,sB,sC];go_big_quiet_on)
  |go_big_quiet_step (first
   |(go_at_call 357;(with_reducible exact zd (HF.out _)))
   |(go_at_call 358;(with_reducible exact zd (HHo.out _)))
   |(go_at_call 357;(with_reducible exact zd (HX.out _)))))
 refine wpQuiet_nil ?_
 intro w9 hb9
 have H9:=hid (HV1.1.next hb9)
 clear hb9
 go_wp2
 go_ret
 exact⟨rfl,H9.below⟩
theorem zhS(c:Nat→Int)(s:ByteArray)(h:Ps.Ok c 0 4 79)(hs:((N.tx 4++N.tx 6).toList==s.toList)=false∧((N.tx 4++N.tx 2).toList==s.toList)=false)(w:World):
  cB 256 #[.agg (posC c),.string s] w (.tuple #[.agg (movC 0 0 0 0 false),.bool false]):=by
 have HC0:Hid (∀W,cB 330 #[.agg (posC c),.int .i64 0] W (.tuple #[.agg (movC 4 7 0 0 true),.bool true])):=hid (fun W=>zaI c W h)
 have HC1:Hid (∀W,cB 330 #[.agg (posC c),.int .i64 1] W (.tuple #[.agg (movC 4 0 0 0 true),.bool true])):=hid (fun W=>zbH c W h)
 obtain⟨x,hx⟩:∃x,N.tx 4++N.tx 6=x:=⟨_,rfl⟩
 obtain⟨y,hy⟩:∃x,N.tx 4++N.tx 2=x:=⟨_,rfl⟩
 have HS0:Hid (∀W,cB 328 #[.agg (posC c),.agg (movC 4 7 0 0 true)] W (.string x)):=hid (fun W=>by rw [←hx];exact zdk c W h)
 have HS1:Hid (∀W,cB 328 #[.agg (posC c),.agg (movC 4 0 0 0 true)] W (.string y)):=hid (fun W=>by rw [←hy];exact zdp c W h)
 rw [hx,hy]at hs
 obtain⟨e0,e1⟩:=hs
 have h0:=MvRes.start w c
 have c0:=h0.p.cell (i:=0) dc
 rw [show pk 0= .u8 from rfl,h.v]at c0
 have H0:=hid h0
 clear h0 h hx hy
 go_enter func256,ntmps256
 go_wp2_with (go_at_call 329;(with_reducible refine(zae _).mono ?_);rintro e wg ⟨rfl,hbg⟩;have HG:=hid (H0.next hbg);clear hbg)
 refine wp_loop_rounds 3 ?_
 rw [rounds_succ]
 go_wp2_with (first
  |((with_reducible refine zh rfl _ rfl ?_);refine⟨_,c,rfl,HV0.1.p,?_⟩)
  |((with_reducible refine zh rfl _ rfl ?_);refine⟨_,c,rfl,HG.p,?_⟩)
  |(go_at_call 330;(with_reducible refine(HC0.out _).mono ?_);rintro e wc0 ⟨rfl,hbc⟩;have HK0:=hid (HG.next hbc);clear hbc)
  |(go_at_call 328;(with_reducible refine(HS0.out _).mono ?_);rintro e wd0 ⟨rfl,hbc⟩;have HW0:=hid (And.intro (HV0.1.next hbc) (And.intro (HV0.2.1.below hbc) HV0.2.2));clear hbc)
  |((with_reducible refine zb rfl 47 _ _ rfl ?_);refine⟨wc0.heap.size,47,movC 4 7 0 0 true,rfl,rfl,⟨_,heap_alloc_new _ _,kr⟩,info_mvB _ _ _ _ _,one_mvB _ _ _ _ _,?_⟩;intro V0 hP hq;have HV0:=hid (And.intro ((HK0.next bA).other hP HK0.res.lt) (And.intro hq HK0.res.lt));clear hP hq)
  |((with_reducible refine zs rfl 47 _ rfl underlying47 rfl ?_);refine⟨_,_,_,rfl,HV0.2.1,info_mvB _ _ _ _ _,?_⟩))
 rw [rounds_succ]
 go_wp2_with (first
  |((with_reducible refine zh rfl _ rfl ?_);refine⟨_,c,rfl,HV1.1.p,?_⟩)
  |((with_reducible refine zh rfl _ rfl ?_);refine⟨_,c,rfl,HW0.1.p,?_⟩)
  |(go_at_call 330;(with_reducible refine(HC1.out _).mono ?_);rintro e wc1 ⟨rfl,hbc⟩;have HK1:=hid (HW0.1.next hbc);clear hbc)
  |(go_at_call 328;(with_reducible refine(HS1.out _).mono ?_);rintro e wd1 ⟨rfl,hbc⟩;have HW1:=hid (And.intro (HV1.1.next hbc) (And.intro (HV1.2.1.below hbc) HV1.2.2));clear hbc)
  |((with_reducible refine zb rfl 47 _ _ rfl ?_);refine⟨wc1.heap.size,47,movC 4 0 0 0 true,rfl,rfl,⟨_,heap_alloc_new _ _,kr⟩,info_mvB _ _ _ _ _,one_mvB _ _ _ _ _,?_⟩;intro V1 hP hq;have HV1:=hid (And.intro ((HK1.next bA).other hP HK1.res.lt) (And.intro hq HK1.res.lt));clear hP hq)
  |((with_reducible refine zs rfl 47 _ rfl underlying47 rfl ?_);refine⟨_,_,_,rfl,HV1.2.1,info_mvB _ _ _ _ _,?_⟩))
 rw [rounds_succ]
 go_wp2_with ((with_reducible refine zb rfl 47 _ _ rfl ?_);refine⟨w.heap.size+1,47,movC 0 0 0 0 false,rfl,rfl,⟨_,HW1.1.res.heap,kr⟩,info_mvB _ _ _ _ _,one_mvB _ _ _ _ _,?_⟩;intro W9 hP9 hq9;have HB:=hid (hP9.below HW1.1.below (Nat.le_succ _)))
 exact bodyPost_ret (zv results256 _ _ (w.heap.size+1) 47 _ (0,0) _ rfl hq9.heap underlying47 rfl (info_mvB _ _ _ _ _)) rfl ⟨rfl,HB⟩
theorem zaJ(c:Nat→Int)(w:World)(h:Ps.Ok c 1 60 81):
  cB 330 #[.agg (posC c),.int .i64 0] w (.tuple #[.agg (movC 60 63 0 0 true),.bool true]):=by
 have h0:=MvRes.start w c
 have HHo:Hid (∀W,cB 358 #[.agg (posC c)] W (.int .i8 56)):=hid (fun W=>by
  have:=zZ c W (by rw [h.t];decide)
  rwa [show((N.home c:Nat):Int)=56 by unfold N.home;rw [h.t];rfl]at this)
 have HSt:Hid (∀W,cB 356 #[.agg (posC c),.int .i8 60,.int .u8 6] W (.bool true)):=hid (fun W=>by
  have:=zaL c 60 6 W dc (by rw [h.t];decide) (by rw [h.t];decide) dc dc
  rwa [h.king]at this)
 have c78:=h0.p.cell (i:=78) dc
 have cr:=h0.p.cell (i:=81) dc
 rw [show pk 78= .u8 from rfl,h.t]at c78
 rw [show pk 81= .i8 from rfl,show c 81=7 from h.r0]at cr
 have lb:=h0.p.lt
 have hs0:((w.alloc (.cells (posC c) 31)).alloc (.cells #[.int .i8 0,.int .i8 0,.int .u8 0,.int .u8 0,.bool false] 47)).heap.size=w.heap.size+2:=by simp
 have wk:IntKind.i8.wrap (56+7)=63:=by decide
 have wk2:IntKind.i8.wrap (56+4)=60:=by decide
 have H0:=hid h0
 have HO:=hid h
 clear h0 h
 go_enter func330,ntmps330
 go_upto_region 1 with fail
 refine rB ?_
 try simp only [Act.put]
 repeat(first
  |(go_big_quiet_want;refine zF _ rfl ⟨_,c,rfl,H0.p,?_⟩;simp only [Act.put,sA,sB,sC];go_big_quiet_on)
  |go_big_quiet_step (first
   |(go_at_call 358;(with_reducible exact zd (HHo.out _)))))
 refine wpQuiet_nil ?_
 intro w1 hb1
 have H1:=hid (H0.next hb1)
 clear hb1 H0 c78 cr lb hs0
 go_upto_region 3 with(first
  |((with_reducible refine ze rfl _ rfl ?_);refine⟨_,c,rfl,H1.p,?_⟩)
  |(go_at_call 358;(with_reducible refine(HHo.out _).mono ?_);rintro e w2 ⟨rfl,hb2⟩;have H2:=hid (H1.next hb2);clear hb2)
  |((with_reducible refine zb rfl 47 _ _ rfl ?_);refine⟨w2.heap.size,47,movC 60 63 0 0 true,rfl,rfl,⟨_,heap_alloc_new _ _,kr⟩,info_mvB _ _ _ _ _,one_mvB _ _ _ _ _,?_⟩;intro W3 hP hq;have H3:=hid (And.intro ((H2.next bA).other hP H2.res.lt) (And.intro hq H2.res.lt));clear hP hq))
 obtain⟨b,hb⟩:∃b,w2.heap.size=b:=⟨_,rfl⟩
 rw [hb]at H3⊢
 clear hb H2 H1
 have c0:=H3.1.p.cell (i:=0) dc
 rw [show pk 0= .u8 from rfl,HO.out.v]at c0
 go_wp2_with (first
  |((with_reducible refine zh rfl _ rfl ?_);refine⟨_,c,rfl,H3.1.p,?_⟩)
  |(go_at_call 356;(with_reducible refine(HSt.out _).mono ?_);rintro e w4 ⟨rfl,hb4⟩;have H4:=hid (And.intro (H3.1.next hb4) (And.intro (H3.2.1.below hb4) H3.2.2));clear hb4)
  |((with_reducible refine zj rfl 47 _ rfl underlying47 rfl ?_);refine⟨_,_,_,rfl,H4.2.1,info_mvB _ _ _ _ _,?_⟩)
  |((with_reducible refine zb rfl 47 _ _ rfl ?_);refine⟨w.heap.size+1,47,movC 60 63 0 0 true,rfl,rfl,⟨_,H4.1.res.heap,kr⟩,info_mvB _ _ _ _ _,one_mvB _ _ _ _ _,?_⟩;intro W9 hP9 hq9;have HB:=hid (hP9.below H4.1.below (Nat.le_succ _))))
 exact bodyPost_ret (zv results330 _ _ (w.heap.size+1) 47 _ (0,0) _ rfl hq9.heap underlying47 rfl (info_mvB _ _ _ _ _)) rfl ⟨rfl,HB⟩
theorem zbr(c:Nat→Int)(w:World)(h:Ps.Ok c 1 60 81):
  cB 330 #[.agg (posC c),.int .i64 1] w (.tuple #[.agg (movC 60 56 0 0 true),.bool true]):=by
 have h0:=MvRes.start w c
 have HHo:Hid (∀W,cB 358 #[.agg (posC c)] W (.int .i8 56)):=hid (fun W=>by
  have:=zZ c W (by rw [h.t];decide)
  rwa [show((N.home c:Nat):Int)=56 by unfold N.home;rw [h.t];rfl]at this)
 have HSt:Hid (∀W,cB 356 #[.agg (posC c),.int .i8 60,.int .u8 6] W (.bool true)):=hid (fun W=>by
  have:=zaL c 60 6 W dc (by rw [h.t];decide) (by rw [h.t];decide) dc dc
  rwa [h.king]at this)
 have c78:=h0.p.cell (i:=78) dc
 have cr:=h0.p.cell (i:=82) dc
 rw [show pk 78= .u8 from rfl,h.t]at c78
 rw [show pk 82= .i8 from rfl,show c 82=0 from h.r1]at cr
 have lb:=h0.p.lt
 have hs0:((w.alloc (.cells (posC c) 31)).alloc (.cells #[.int .i8 0,.int .i8 0,.int .u8 0,.int .u8 0,.bool false] 47)).heap.size=w.heap.size+2:=by simp
 have wk:IntKind.i8.wrap (56+0)=56:=by decide
 have wk2:IntKind.i8.wrap (56+4)=60:=by decide
 have H0:=hid h0
 have HO:=hid h
 clear h0 h
 go_enter func330,ntmps330
 go_upto_region 1 with fail
 refine rB ?_
 try simp only [Act.put]
 repeat(first
  |(go_big_quiet_want;refine zF _ rfl ⟨_,c,rfl,H0.p,?_⟩;simp only [Act.put,sA,sB,sC];go_big_quiet_on)
  |go_big_quiet_step (first
   |(go_at_call 358;(with_reducible exact zd (HHo.out _)))))
 refine wpQuiet_nil ?_
 intro w1 hb1
 have H1:=hid (H0.next hb1)
 clear hb1 H0 c78 cr lb hs0
 go_upto_region 3 with(first
  |((with_reducible refine ze rfl _ rfl ?_);refine⟨_,c,rfl,H1.p,?_⟩)
  |(go_at_call 358;(with_reducible refine(HHo.out _).mono ?_);rintro e w2 ⟨rfl,hb2⟩;have H2:=hid (H1.next hb2);clear hb2)
  |((with_reducible refine zb rfl 47 _ _ rfl ?_);refine⟨w2.heap.size,47,movC 60 56 0 0 true,rfl,rfl,⟨_,heap_alloc_new _ _,kr⟩,info_mvB _ _ _ _ _,one_mvB _ _ _ _ _,?_⟩;intro W3 hP hq;have H3:=hid (And.intro ((H2.next bA).other hP H2.res.lt) (And.intro hq H2.res.lt));clear hP hq))
 obtain⟨b,hb⟩:∃b,w2.heap.size=b:=⟨_,rfl⟩
 rw [hb]at H3⊢
 clear hb H2 H1
 have c0:=H3.1.p.cell (i:=0) dc
 rw [show pk 0= .u8 from rfl,HO.out.v]at c0
 go_wp2_with (first
  |((with_reducible refine zh rfl _ rfl ?_);refine⟨_,c,rfl,H3.1.p,?_⟩)
  |(go_at_call 356;(with_reducible refine(HSt.out _).mono ?_);rintro e w4 ⟨rfl,hb4⟩;have H4:=hid (And.intro (H3.1.next hb4) (And.intro (H3.2.1.below hb4) H3.2.2));clear hb4)
  |((with_reducible refine zj rfl 47 _ rfl underlying47 rfl ?_);refine⟨_,_,_,rfl,H4.2.1,info_mvB _ _ _ _ _,?_⟩)
  |((with_reducible refine zb rfl 47 _ _ rfl ?_);refine⟨w.heap.size+1,47,movC 60 56 0 0 true,rfl,rfl,⟨_,H4.1.res.heap,kr⟩,info_mvB _ _ _ _ _,one_mvB _ _ _ _ _,?_⟩;intro W9 hP9 hq9;have HB:=hid (hP9.below H4.1.below (Nat.le_succ _))))
 exact bodyPost_ret (zv results330 _ _ (w.heap.size+1) 47 _ (0,0) _ rfl hq9.heap underlying47 rfl (info_mvB _ _ _ _ _)) rfl ⟨rfl,HB⟩
theorem zdo(c:Nat→Int)(w:World)(h:Ps.Ok c 1 60 81):
  cB 328 #[.agg (posC c),.agg (movC 60 63 0 0 true)] w (.string (N.tx 60++N.tx 62)):=by
 have hP:=PMv.start w c (movC 60 63 0 0 true)
 have c0:=hP.p.cell (i:=0) dc
 rw [show pk 0= .u8 from rfl,h.v]at c0
 have HC0:Hid (∀W,cB 330 #[.agg (posC c),.int .i64 0] W (.tuple #[.agg (movC 60 63 0 0 true),.bool true])):=hid (fun W=>zaJ c W h)
 have HHo:Hid (∀W,cB 358 #[.agg (posC c)] W (.int .i8 56)):=hid (fun W=>by
  have:=zZ c W (by rw [h.t];decide)
  rwa [show((N.home c:Nat):Int)=56 by unfold N.home;rw [h.t];rfl]at this)
 have HF:Hid (∀W,cB 357 #[.int .i8 60] W (.string (N.tx 60))):=hid (fun W=>zaa 60 W dc)
 have HX:Hid (∀W,cB 357 #[.int .i8 62] W (.string (N.tx 62))):=hid (fun W=>zaa 62 W dc)
 have HSx:=hid (show(N.tx 60).size+(N.tx 62).size≤9223372036854775807 from(by decide:2+2≤9223372036854775807))
 have wk:IntKind.i8.wrap (56+6)=62:=by decide
 have H0:=hid hP
 clear hP h
 obtain⟨x,h7⟩:∃x,N.tx 60=x:=⟨_,rfl⟩
 obtain⟨y,h8⟩:∃x,N.tx 62=x:=⟨_,rfl⟩
 rw [h7]at HF
 rw [h8]at HX
 rw [h7,h8]at HSx⊢
 clear h7 h8
 go_enter func328,ntmps328
 have hi0:=idx_goals0
 have hi1:=idx_goals1
 go_wp2_with (go_at_call 329;(with_reducible refine(zae _).mono ?_);rintro e wg ⟨rfl,hbg⟩;have HG:=hid (H0.next hbg);clear hbg)
 refine wp_loop_rounds 3 ?_
 rw [rounds_succ]
 go_upto_region 10 with(first
  |((with_reducible refine zh rfl _ rfl ?_);refine⟨_,c,rfl,HG.p,?_⟩)
  |(go_at_call 330;(with_reducible refine(HC0.out _).mono ?_);rintro e wc0 ⟨rfl,hbc⟩;have HK0:=hid (HG.next hbc);clear hbc)
  |((with_reducible refine zb rfl 47 _ _ rfl ?_);refine⟨wc0.heap.size,47,movC 60 63 0 0 true,rfl,rfl,⟨_,heap_alloc_new _ _,kr⟩,info_mvB _ _ _ _ _,one_mvB _ _ _ _ _,?_⟩;intro V0 hP hq;have HV0:=hid (And.intro ((HK0.next bA).other hP HK0.m.lt) hq);clear hP hq)
  |((with_reducible refine zs rfl 47 _ rfl underlying47 rfl ?_);refine⟨w.heap.size+1,_,_,rfl,HV0.1.m,info_mvB _ _ _ _ _,?_⟩)
  |((with_reducible refine zs rfl 47 _ rfl underlying47 rfl ?_);refine⟨_,_,_,rfl,HV0.2,info_mvB _ _ _ _ _,?_⟩)
  |((with_reducible refine zaq rfl _ _ _ rfl ?_);refine⟨(60,63,0,0,true),(60,63,0,0,true),rfl,rfl,?_⟩;rw [show((((60:Int),(63:Int),(0:Int),(0:Int),true):Mv)==(60,63,0,0,true))=true from by decide]))
 have q0:=HV0.1.m.cell 0
 rw [show(movC 60 63 0 0 true)[0]? =some (.int .i8 60)from rfl]at q0
 have lb2:=HV0.1.m.lt
 refine rB ?_
 try simp only [Act.put]
 repeat(first
  |(go_big_quiet_want;refine zF _ rfl ⟨_,c,rfl,HV0.1.p,?_⟩;simp only [Act.put,sA,sB,sC];go_big_quiet_on)
  |(go_big_quiet_want;refine zbu _ _ _ rfl ⟨x,y,rfl,rfl,HSx,?_⟩;simp only [Act.put,sA,sB,sC];go_big_quiet_on)
  |go_big_quiet_step (first
   |(go_at_call 357;(with_reducible exact zd (HF.out _)))
   |(go_at_call 358;(with_reducible exact zd (HHo.out _)))
   |(go_at_call 357;(with_reducible exact zd (HX.out _)))))
 refine wpQuiet_nil ?_
 intro w9 hb9
 have H9:=hid (HV0.1.next hb9)
 clear hb9
 go_wp2
 go_ret
 exact⟨rfl,H9.below⟩
theorem zdi(c:Nat→Int)(w:World)(h:Ps.Ok c 1 60 81):
  cB 328 #[.agg (posC c),.agg (movC 60 56 0 0 true)] w (.string (N.tx 60++N.tx 58)):=by
 have hP:=PMv.start w c (movC 60 56 0 0 true)
 have c0:=hP.p.cell (i:=0) dc
 rw [show pk 0= .u8 from rfl,h.v]at c0
 have HC0:Hid (∀W,cB 330 #[.agg (posC c),.int .i64 0] W (.tuple #[.agg (movC 60 63 0 0 true),.bool true])):=hid (fun W=>zaJ c W h)
 have HC1:Hid (∀W,cB 330 #[.agg (posC c),.int .i64 1] W (.tuple #[.agg (movC 60 56 0 0 true),.bool true])):=hid (fun W=>zbr c W h)
 have HHo:Hid (∀W,cB 358 #[.agg (posC c)] W (.int .i8 56)):=hid (fun W=>by
  have:=zZ c W (by rw [h.t];decide)
  rwa [show((N.home c:Nat):Int)=56 by unfold N.home;rw [h.t];rfl]at this)
 have HF:Hid (∀W,cB 357 #[.int .i8 60] W (.string (N.tx 60))):=hid (fun W=>zaa 60 W dc)
 have HX:Hid (∀W,cB 357 #[.int .i8 58] W (.string (N.tx 58))):=hid (fun W=>zaa 58 W dc)
 have HSx:=hid (show(N.tx 60).size+(N.tx 58).size≤9223372036854775807 from(by decide:2+2≤9223372036854775807))
 have wk:IntKind.i8.wrap (56+2)=58:=by decide
 have H0:=hid hP
 clear hP h
 obtain⟨x,h7⟩:∃x,N.tx 60=x:=⟨_,rfl⟩
 obtain⟨y,h8⟩:∃x,N.tx 58=x:=⟨_,rfl⟩
 rw [h7]at HF
 rw [h8]at HX
 rw [h7,h8]at HSx⊢
 clear h7 h8
 go_enter func328,ntmps328
 have hi0:=idx_goals0
 have hi1:=idx_goals1
 go_wp2_with (go_at_call 329;(with_reducible refine(zae _).mono ?_);rintro e wg ⟨rfl,hbg⟩;have HG:=hid (H0.next hbg);clear hbg)
 refine wp_loop_rounds 3 ?_
 rw [rounds_succ]
 go_wp2_with (first
  |((with_reducible refine zh rfl _ rfl ?_);refine⟨_,c,rfl,HG.p,?_⟩)
  |(go_at_call 330;(with_reducible refine(HC0.out _).mono ?_);rintro e wc0 ⟨rfl,hbc⟩;have HK0:=hid (HG.next hbc);clear hbc)
  |((with_reducible refine zb rfl 47 _ _ rfl ?_);refine⟨wc0.heap.size,47,movC 60 63 0 0 true,rfl,rfl,⟨_,heap_alloc_new _ _,kr⟩,info_mvB _ _ _ _ _,one_mvB _ _ _ _ _,?_⟩;intro V0 hP hq;have HV0:=hid (And.intro ((HK0.next bA).other hP HK0.m.lt) hq);clear hP hq)
  |((with_reducible refine zs rfl 47 _ rfl underlying47 rfl ?_);refine⟨w.heap.size+1,_,_,rfl,HV0.1.m,info_mvB _ _ _ _ _,?_⟩)
  |((with_reducible refine zs rfl 47 _ rfl underlying47 rfl ?_);refine⟨_,_,_,rfl,HV0.2,info_mvB _ _ _ _ _,?_⟩)
  |((with_reducible refine zaq rfl _ _ _ rfl ?_);refine⟨(60,63,0,0,true),(60,56,0,0,true),rfl,rfl,?_⟩;rw [show((((60:Int),(63:Int),(0:Int),(0:Int),true):Mv)==(60,56,0,0,true))=false from by decide]))
 rw [rounds_succ]
 go_upto_region 10 with(first
  |((with_reducible refine zh rfl _ rfl ?_);refine⟨_,c,rfl,HV0.1.p,?_⟩)
  |(go_at_call 330;(with_reducible refine(HC1.out _).mono ?_);rintro e wc1 ⟨rfl,hbc⟩;have HK1:=hid (HV0.1.next hbc);clear hbc)
  |((with_reducible refine zb rfl 47 _ _ rfl ?_);refine⟨wc1.heap.size,47,movC 60 56 0 0 true,rfl,rfl,⟨_,heap_alloc_new _ _,kr⟩,info_mvB _ _ _ _ _,one_mvB _ _ _ _ _,?_⟩;intro V1 hP hq;have HV1:=hid (And.intro ((HK1.next bA).other hP HK1.m.lt) hq);clear hP hq)
  |((with_reducible refine zs rfl 47 _ rfl underlying47 rfl ?_);refine⟨w.heap.size+1,_,_,rfl,HV1.1.m,info_mvB _ _ _ _ _,?_⟩)
  |((with_reducible refine zs rfl 47 _ rfl underlying47 rfl ?_);refine⟨_,_,_,rfl,HV1.2,info_mvB _ _ _ _ _,?_⟩)
  |((with_reducible refine zaq rfl _ _ _ rfl ?_);refine⟨(60,56,0,0,true),(60,56,0,0,true),rfl,rfl,?_⟩;rw [show((((60:Int),(56:Int),(0:Int),(0:Int),true):Mv)==(60,56,0,0,true))=true from by decide]))
 have q0:=HV1.1.m.cell 0
 rw [show(movC 60 56 0 0 true)[0]? =some (.int .i8 60)from rfl]at q0
 have lb2:=HV1.1.m.lt
 refine rB ?_
 try simp only [Act.put]
 repeat(first
  |(go_big_quiet_want;refine zF _ rfl ⟨_,c,rfl,HV1.1.p,?_⟩;simp only [Act.put,sA,sB,sC];go_big_quiet_on)
  |(go_big_quiet_want;refine zbu _ _ _ rfl ⟨x,y,rfl,rfl,HSx,?_⟩;simp only [Act.put,sA,sB,sC];go_big_quiet_on)
  |go_big_quiet_step (first
   |(go_at_call 357;(with_reducible exact zd (HF.out _)))
   |(go_at_call 358;(with_reducible exact zd (HHo.out _)))
   |(go_at_call 357;(with_reducible exact zd (HX.out _)))))
 refine wpQuiet_nil ?_
 intro w9 hb9
 have H9:=hid (HV1.1.next hb9)
 clear hb9
 go_wp2
 go_ret
 exact⟨rfl,H9.below⟩
theorem zhm(c:Nat→Int)(s:ByteArray)(h:Ps.Ok c 1 60 81)(hs:((N.tx 60++N.tx 62).toList==s.toList)=false∧((N.tx 60++N.tx 58).toList==s.toList)=false)(w:World):
  cB 256 #[.agg (posC c),.string s] w (.tuple #[.agg (movC 0 0 0 0 false),.bool false]):=by
 have HC0:Hid (∀W,cB 330 #[.agg (posC c),.int .i64 0] W (.tuple #[.agg (movC 60 63 0 0 true),.bool true])):=hid (fun W=>zaJ c W h)
 have HC1:Hid (∀W,cB 330 #[.agg (posC c),.int .i64 1] W (.tuple #[.agg (movC 60 56 0 0 true),.bool true])):=hid (fun W=>zbr c W h)
 obtain⟨x,hx⟩:∃x,N.tx 60++N.tx 62=x:=⟨_,rfl⟩
 obtain⟨y,hy⟩:∃x,N.tx 60++N.tx 58=x:=⟨_,rfl⟩
 have HS0:Hid (∀W,cB 328 #[.agg (posC c),.agg (movC 60 63 0 0 true)] W (.string x)):=hid (fun W=>by rw [←hx];exact zdo c W h)
 have HS1:Hid (∀W,cB 328 #[.agg (posC c),.agg (movC 60 56 0 0 true)] W (.string y)):=hid (fun W=>by rw [←hy];exact zdi c W h)
 rw [hx,hy]at hs
 obtain⟨e0,e1⟩:=hs
 have h0:=MvRes.start w c
 have c0:=h0.p.cell (i:=0) dc
 rw [show pk 0= .u8 from rfl,h.v]at c0
 have H0:=hid h0
 clear h0 h hx hy
 go_enter func256,ntmps256
 go_wp2_with (go_at_call 329;(with_reducible refine(zae _).mono ?_);rintro e wg ⟨rfl,hbg⟩;have HG:=hid (H0.next hbg);clear hbg)
 refine wp_loop_rounds 3 ?_
 rw [rounds_succ]
 go_wp2_with (first
  |((with_reducible refine zh rfl _ rfl ?_);refine⟨_,c,rfl,HV0.1.p,?_⟩)
  |((with_reducible refine zh rfl _ rfl ?_);refine⟨_,c,rfl,HG.p,?_⟩)
  |(go_at_call 330;(with_reducible refine(HC0.out _).mono ?_);rintro e wc0 ⟨rfl,hbc⟩;have HK0:=hid (HG.next hbc);clear hbc)
  |(go_at_call 328;(with_reducible refine(HS0.out _).mono ?_);rintro e wd0 ⟨rfl,hbc⟩;have HW0:=hid (And.intro (HV0.1.next hbc) (And.intro (HV0.2.1.below hbc) HV0.2.2));clear hbc)
  |((with_reducible refine zb rfl 47 _ _ rfl ?_);refine⟨wc0.heap.size,47,movC 60 63 0 0 true,rfl,rfl,⟨_,heap_alloc_new _ _,kr⟩,info_mvB _ _ _ _ _,one_mvB _ _ _ _ _,?_⟩;intro V0 hP hq;have HV0:=hid (And.intro ((HK0.next bA).other hP HK0.res.lt) (And.intro hq HK0.res.lt));clear hP hq)
  |((with_reducible refine zs rfl 47 _ rfl underlying47 rfl ?_);refine⟨_,_,_,rfl,HV0.2.1,info_mvB _ _ _ _ _,?_⟩))
 rw [rounds_succ]
 go_wp2_with (first
  |((with_reducible refine zh rfl _ rfl ?_);refine⟨_,c,rfl,HV1.1.p,?_⟩)
  |((with_reducible refine zh rfl _ rfl ?_);refine⟨_,c,rfl,HW0.1.p,?_⟩)
  |(go_at_call 330;(with_reducible refine(HC1.out _).mono ?_);rintro e wc1 ⟨rfl,hbc⟩;have HK1:=hid (HW0.1.next hbc);clear hbc)
  |(go_at_call 328;(with_reducible refine(HS1.out _).mono ?_);rintro e wd1 ⟨rfl,hbc⟩;have HW1:=hid (And.intro (HV1.1.next hbc) (And.intro (HV1.2.1.below hbc) HV1.2.2));clear hbc)
  |((with_reducible refine zb rfl 47 _ _ rfl ?_);refine⟨wc1.heap.size,47,movC 60 56 0 0 true,rfl,rfl,⟨_,heap_alloc_new _ _,kr⟩,info_mvB _ _ _ _ _,one_mvB _ _ _ _ _,?_⟩;intro V1 hP hq;have HV1:=hid (And.intro ((HK1.next bA).other hP HK1.res.lt) (And.intro hq HK1.res.lt));clear hP hq)
  |((with_reducible refine zs rfl 47 _ rfl underlying47 rfl ?_);refine⟨_,_,_,rfl,HV1.2.1,info_mvB _ _ _ _ _,?_⟩))
 rw [rounds_succ]
 go_wp2_with ((with_reducible refine zb rfl 47 _ _ rfl ?_);refine⟨w.heap.size+1,47,movC 0 0 0 0 false,rfl,rfl,⟨_,HW1.1.res.heap,kr⟩,info_mvB _ _ _ _ _,one_mvB _ _ _ _ _,?_⟩;intro W9 hP9 hq9;have HB:=hid (hP9.below HW1.1.below (Nat.le_succ _)))
 exact bodyPost_ret (zv results256 _ _ (w.heap.size+1) 47 _ (0,0) _ rfl hq9.heap underlying47 rfl (info_mvB _ _ _ _ _)) rfl ⟨rfl,HB⟩
theorem psbytes{a b:ByteArray}(h:(a.toList==b.toList)=true):a=b:=by
 have h:a.toList=b.toList:=by simpa using h
 rw [Lib.toList_data,Lib.toList_data]at h
 exact ByteArray.ext (Array.toList_inj.1 h)
theorem pssq(t:ByteArray)(f:Nat)(hf:f<64)(h:t=N.tx f)(w:World):cB 332 #[.string t] w (.tuple #[.int .i64 f,.bool true]):=by
 refine(zem t w).mono ?_
 rintro e w' ⟨⟨n,x,rfl,hP⟩,hb⟩
 rcases hP with⟨rfl,s,hs,rfl,e⟩|⟨_,_,hn⟩
 ·rw [h]at e
  obtain⟨e1,e2⟩:=N.tx_two' (show(⟨#[UInt8.ofNat (97+f % 8),UInt8.ofNat (49+f/8)]⟩:ByteArray)=N.tx s from e)
  rw [N.sq_inj hf hs e1 e2]
  exact⟨rfl,hb⟩
 ·exact absurd h (hn f hf)
structure MvBox (w:World) (g:Nat) (m:Array Value) (W:World):Prop where
 res:∃old,W.heap[w.heap.size]? =some (.cells old 47 (0,0))∧old.size=5
 m:RowAt W g 47 m
 below:Below w.heap.size w W
 hi:w.heap.size<g
namespace Ps
structure Txt (p q r t:UInt8) (f g:Nat):Prop where
 hf:f<64
 hg:g<64
 ne:f≠g
 a:(⟨#[p,q]⟩:ByteArray)=N.tx f
 b:(⟨#[r,t]⟩:ByteArray)=N.tx g
 hq:q≠64
end Ps
theorem pstwo{p q r t:UInt8}{f g:Nat}(h:Ps.Txt p q r t f g)(w:World):cB 327 #[.string ⟨#[p,q,r,t]⟩] w (.tuple #[.int .i8 f,.int .i8 g,.bool true]):=by
 have HX:=hid (fun W=>pssq _ f h.hf h.a W)
 have HY:=hid (fun W=>pssq _ g h.hg h.b W)
 have w1:IntKind.i8.wrap (f:Int)=(f:Int):=by have:=h.hf;unfold IntKind.wrap;simp only [IntKind.bits,IntKind.signed];simp;omega
 have w2:IntKind.i8.wrap (g:Int)=(g:Int):=by have:=h.hg;unfold IntKind.wrap;simp only [IntKind.bits,IntKind.signed];simp;omega
 have e1:(⟨#[p,q,r,t]⟩:ByteArray).extract 0 2=⟨#[p,q]⟩:=rfl
 have e2:(⟨#[p,q,r,t]⟩:ByteArray).extract 2 4=⟨#[r,t]⟩:=rfl
 have hb:((f:Int) !=(g:Int))=true:=by have:=h.ne;rw [bne_iff_ne];omega
 clear h
 obtain⟨F,hF⟩:∃F:Int,(f:Int)=F:=⟨_,rfl⟩
 obtain⟨G,hG⟩:∃G:Int,(g:Int)=G:=⟨_,rfl⟩
 rw [hF]at HX w1 hb⊢
 rw [hG]at HY w2 hb⊢
 clear hF hG
 go_enter func327,ntmps327
 go_wp2_with (first
  |(go_at_call 332;(with_reducible refine(HX.out _).mono ?_);rintro e wa ⟨rfl,hba⟩;have HA:=hid hba;clear hba)
  |(go_at_call 332;(with_reducible refine(HY.out _).mono ?_);rintro e wb ⟨rfl,hbb⟩;have HB:=hid hbb;clear hbb))
 go_ret3
 exact⟨by first|rfl|(rw [hb];rfl),za HA HB⟩
theorem psdrop(p q r t:UInt8)(hq:q≠64)(w:World):cB 258 #[.string ⟨#[p,q,r,t]⟩] w (.tuple #[.agg (movC 0 0 0 0 false),.bool false]):=by
 have h4:(⟨#[p,q,r,t]⟩:ByteArray).size=4:=rfl
 have e3:∀h,(⟨#[p,q,r,t]⟩:ByteArray)[1]'h=q:=fun _=>rfl
 have hq2:((q.toNat:Int) !=64)=true:=by
  rw [bne_iff_ne]
  intro e
  exact hq (UInt8.toNat_inj.1 (by show q.toNat=64;omega))
 have hb0:Below w.heap.size w (w.alloc (.cells #[.int .i8 0,.int .i8 0,.int .u8 0,.int .u8 0,.bool false] 47)):=bA
 go_enter func258,ntmps258
 go_wp2_with ((with_reducible refine zb rfl 47 _ _ rfl ?_);refine⟨w.heap.size,47,movC 0 0 0 0 false,rfl,rfl,⟨_,heap_alloc_new _ _,kr⟩,info_mvB _ _ _ _ _,one_mvB _ _ _ _ _,?_⟩;intro W9 hP9 hq9;have HB:=hid (hP9.below hb0 (Nat.le_refl _)))
 exact bodyPost_ret (zv results258 _ _ w.heap.size 47 _ (0,0) _ rfl hq9.heap underlying47 rfl (info_mvB _ _ _ _ _)) rfl ⟨rfl,HB⟩
theorem pswalk{p q r t:UInt8}{f g:Nat}(h:Ps.Txt p q r t f g)(w:World):cB 260 #[.string ⟨#[p,q,r,t]⟩] w (.tuple #[.agg (movC f g 0 0 false),.bool true]):=by
 have HT:=hid (fun W=>pstwo h W)
 have hb0:Below w.heap.size w (w.alloc (.cells #[.int .i8 0,.int .i8 0,.int .u8 0,.int .u8 0,.bool false] 47)):=bA
 have HR:=hid (And.intro (RowAt.new w #[.int .i8 0,.int .i8 0,.int .u8 0,.int .u8 0,.bool false] 47) hb0)
 clear hb0 h
 have d4:(⟨#[p,q,r,t]⟩:ByteArray).size=4:=rfl
 obtain⟨n,hn⟩:∃n:Int,(f:Int)=n:=⟨_,rfl⟩
 obtain⟨m,hm⟩:∃m:Int,(g:Int)=m:=⟨_,rfl⟩
 rw [hn,hm]at HT⊢
 clear hn hm
 go_enter func260,ntmps260
 go_wp2_with (first
  |(go_at_call 327;(with_reducible refine(HT.out _).mono ?_);rintro e wa ⟨rfl,hba⟩;have HA:=hid (And.intro (HR.1.below hba) (za HR.2 hba));clear hba)
  |((with_reducible refine zb rfl 47 _ _ rfl ?_);refine⟨w.heap.size,47,movC n m 0 0 false,rfl,rfl,HG.res,info_mvB _ _ _ _ _,one_mvB _ _ _ _ _,?_⟩;intro W9 hP9 hq9;have HB:=hid (hP9.below HG.below (Nat.le_refl _)))
  |((with_reducible refine zb rfl 47 _ _ rfl ?_);refine⟨wa.heap.size,47,movC n m 0 0 false,rfl,rfl,⟨_,heap_alloc_new _ _,kr⟩,info_mvB _ _ _ _ _,one_mvB _ _ _ _ _,?_⟩;intro W3 hP hq;have HG:=hid (show MvBox w wa.heap.size (movC n m 0 0 false) W3 from⟨⟨_,(hP.row (HA.1.alloc _) (Nat.ne_of_lt HA.1.lt)).heap,rfl⟩,hq,hP.below (HA.2.alloc HA.2.size _) HA.2.size,HA.1.lt⟩);clear hP hq)
  |((with_reducible refine zj rfl 47 _ rfl underlying47 rfl ?_);refine⟨_,_,_,rfl,HG.m,info_mvB _ _ _ _ _,?_⟩))
 exact bodyPost_ret (zv results260 _ _ w.heap.size 47 _ (0,0) _ rfl hq9.heap underlying47 rfl (info_mvB _ _ _ _ _)) rfl ⟨rfl,HB⟩
theorem zg0(c:Nat→Int)(s:ByteArray)(p0:Nat)(p1:Nat)(f g x y:Int)(z ok:Bool)(hC:∀W,cB 256 #[.agg (posC c),.string s] W (.tuple #[.agg (movC f g x y z),.bool ok]))(w:World)(hp:PosAt w p0 c)(hs:RowAt w p1 9 #[.string s]):
  cB 255 #[.pointer (some ⟨p0,0,none⟩),.pointer (some ⟨p1,0,none⟩)] w (.tuple #[.agg (movC f g x y z),.bool ok]):=by
 have HC:=hid hC
 clear hC
 have hb0:Below w.heap.size w (w.alloc (.cells #[.int .i8 0,.int .i8 0,.int .u8 0,.int .u8 0,.bool false] 47)):=bA
 have hR:=RowAt.new w #[.int .i8 0,.int .i8 0,.int .u8 0,.int .u8 0,.bool false] 47
 have hS:=hs.alloc (.cells #[.int .i8 0,.int .i8 0,.int .u8 0,.int .u8 0,.bool false] 47)
 have hA:=hp.alloc (.cells #[.int .i8 0,.int .i8 0,.int .u8 0,.int .u8 0,.bool false] 47)
 have s0:=hS.cell 0
 rw [show(#[.string s]:Array Value)[0]? =some (.string s)from rfl]at s0
 have H0:=hid (And.intro hA (And.intro hR hb0))
 clear hb0 hR hS hs hA hp
 go_enter func255,ntmps255
 go_wp2_with (first
  |((with_reducible refine ze rfl _ rfl ?_);refine⟨_,c,rfl,H0.1,?_⟩)
  |(go_at_call 256;(with_reducible refine(HC.out _).mono ?_);rintro e w1 ⟨rfl,hb1⟩;have H1:=hid (And.intro (H0.2.1.below hb1) (za H0.2.2 hb1));clear hb1)
  |((with_reducible refine zb rfl 47 _ _ rfl ?_);refine⟨w.heap.size,47,movC f g x y z,rfl,rfl,⟨_,H1.1.heap,kr⟩,info_mvB _ _ _ _ _,one_mvB _ _ _ _ _,?_⟩;intro W9 hP9 hq9;have HB:=hid (hP9.below H1.2 (Nat.le_refl _))))
 exact bodyPost_ret (zv results255 _ _ w.heap.size 47 _ (0,0) _ rfl hq9.heap underlying47 rfl (info_mvB _ _ _ _ _)) rfl ⟨rfl,HB⟩
theorem zg3(s:ByteArray)(p1:Nat)(f g x y:Int)(z ok:Bool)(hC:∀W,cB 258 #[.string s] W (.tuple #[.agg (movC f g x y z),.bool ok]))(w:World)(hs:RowAt w p1 9 #[.string s]):
  cB 257 #[.pointer (some ⟨p1,0,none⟩)] w (.tuple #[.agg (movC f g x y z),.bool ok]):=by
 have HC:=hid hC
 clear hC
 have hb0:Below w.heap.size w (w.alloc (.cells #[.int .i8 0,.int .i8 0,.int .u8 0,.int .u8 0,.bool false] 47)):=bA
 have hR:=RowAt.new w #[.int .i8 0,.int .i8 0,.int .u8 0,.int .u8 0,.bool false] 47
 have hS:=hs.alloc (.cells #[.int .i8 0,.int .i8 0,.int .u8 0,.int .u8 0,.bool false] 47)
 have s0:=hS.cell 0
 rw [show(#[.string s]:Array Value)[0]? =some (.string s)from rfl]at s0
 have H0:=hid (And.intro hS (And.intro hR hb0))
 clear hb0 hR hS hs
 go_enter func257,ntmps257
 go_wp2_with (first
  |(go_at_call 258;(with_reducible refine(HC.out _).mono ?_);rintro e w1 ⟨rfl,hb1⟩;have H1:=hid (And.intro (H0.2.1.below hb1) (za H0.2.2 hb1));clear hb1)
  |((with_reducible refine zb rfl 47 _ _ rfl ?_);refine⟨w.heap.size,47,movC f g x y z,rfl,rfl,⟨_,H1.1.heap,kr⟩,info_mvB _ _ _ _ _,one_mvB _ _ _ _ _,?_⟩;intro W9 hP9 hq9;have HB:=hid (hP9.below H1.2 (Nat.le_refl _))))
 exact bodyPost_ret (zv results257 _ _ w.heap.size 47 _ (0,0) _ rfl hq9.heap underlying47 rfl (info_mvB _ _ _ _ _)) rfl ⟨rfl,HB⟩
theorem zf3(s:ByteArray)(p1:Nat)(f g x y:Int)(z ok:Bool)(hC:∀W,cB 260 #[.string s] W (.tuple #[.agg (movC f g x y z),.bool ok]))(w:World)(hs:RowAt w p1 9 #[.string s]):
  cB 259 #[.pointer (some ⟨p1,0,none⟩)] w (.tuple #[.agg (movC f g x y z),.bool ok]):=by
 have HC:=hid hC
 clear hC
 have hb0:Below w.heap.size w (w.alloc (.cells #[.int .i8 0,.int .i8 0,.int .u8 0,.int .u8 0,.bool false] 47)):=bA
 have hR:=RowAt.new w #[.int .i8 0,.int .i8 0,.int .u8 0,.int .u8 0,.bool false] 47
 have hS:=hs.alloc (.cells #[.int .i8 0,.int .i8 0,.int .u8 0,.int .u8 0,.bool false] 47)
 have s0:=hS.cell 0
 rw [show(#[.string s]:Array Value)[0]? =some (.string s)from rfl]at s0
 have H0:=hid (And.intro hS (And.intro hR hb0))
 clear hb0 hR hS hs
 go_enter func259,ntmps259
 go_wp2_with (first
  |(go_at_call 260;(with_reducible refine(HC.out _).mono ?_);rintro e w1 ⟨rfl,hb1⟩;have H1:=hid (And.intro (H0.2.1.below hb1) (za H0.2.2 hb1));clear hb1)
  |((with_reducible refine zb rfl 47 _ _ rfl ?_);refine⟨w.heap.size,47,movC f g x y z,rfl,rfl,⟨_,H1.1.heap,kr⟩,info_mvB _ _ _ _ _,one_mvB _ _ _ _ _,?_⟩;intro W9 hP9 hq9;have HB:=hid (hP9.below H1.2 (Nat.le_refl _))))
 exact bodyPost_ret (zv results259 _ _ w.heap.size 47 _ (0,0) _ rfl hq9.heap underlying47 rfl (info_mvB _ _ _ _ _)) rfl ⟨rfl,HB⟩
structure PsAt (w:World) (c:Nat→Int) (s:ByteArray) (W:World):Prop where
 p:PosAt W w.heap.size c
 s:RowAt W (w.heap.size+1) 9 #[.string s]
 res:RowAt W (w.heap.size+2) 47 #[.int .i8 0,.int .i8 0,.int .u8 0,.int .u8 0,.bool false]
 below:Below w.heap.size w W
theorem PsAt.next{w W W':World}{c:Nat→Int}{s:ByteArray}(h:PsAt w c s W)(hb:Below W.heap.size W W'):PsAt w c s W':=
 ⟨h.p.below hb,h.s.below hb,h.res.below hb,za h.below hb⟩
theorem PsAt.other{w W W':World}{c:Nat→Int}{s:ByteArray}{e:Nat}(h:PsAt w c s W)(hP:Put e W W')(he:w.heap.size+2<e):PsAt w c s W':=
 ⟨hP.pos h.p om,hP.row h.s om,hP.row h.res om,hP.below h.below om⟩
theorem PsAt.start(w:World)(c:Nat→Int)(s:ByteArray):PsAt w c s (((w.alloc (.cells (posC c) 31)).alloc (.cells #[.string s] 9)).alloc (.cells #[.int .i8 0,.int .i8 0,.int .u8 0,.int .u8 0,.bool false] 47)):=by
 have h1:=RowAt.new (w.alloc (.cells (posC c) 31)) #[.string s] 9
 have h2:=RowAt.new ((w.alloc (.cells (posC c) 31)).alloc (.cells #[.string s] 9)) #[.int .i8 0,.int .i8 0,.int .u8 0,.int .u8 0,.bool false] 47
 rw [World.size_alloc]at h1
 rw [World.size_alloc,World.size_alloc]at h2
 exact⟨((PosAt.new w c).alloc _).alloc _,h1.alloc _,h2,(bA.alloc sp _).alloc (by simp;omega) _⟩
abbrev Ps.fs(n:Nat):Array Value:= #[.func (Fn.func 255) #[] #[.pointer (some ⟨n,0,none⟩),.pointer (some ⟨n+1,0,none⟩)],.func (Fn.func 257) #[] #[.pointer (some ⟨n+1,0,none⟩)],.func (Fn.func 259) #[] #[.pointer (some ⟨n+1,0,none⟩)]]
theorem Ps.fs0(n:Nat):(Ps.fs n)[0]? =some (.func (Fn.func 255) #[] #[.pointer (some ⟨n,0,none⟩),.pointer (some ⟨n+1,0,none⟩)]):=rfl
theorem Ps.fs1(n:Nat):(Ps.fs n)[1]? =some (.func (Fn.func 257) #[] #[.pointer (some ⟨n+1,0,none⟩)]):=rfl
theorem Ps.fs2(n:Nat):(Ps.fs n)[2]? =some (.func (Fn.func 259) #[] #[.pointer (some ⟨n+1,0,none⟩)]):=rfl
theorem zcz(c:Nat→Int)(s:ByteArray)(f g:Int)(hk:N.kn c=true)(hR:∀w,cB 256 #[.agg (posC c),.string s] w (.tuple #[.agg (movC 0 0 0 0 false),.bool false]))
  (hD:∀w,cB 258 #[.string s] w (.tuple #[.agg (movC 0 0 0 0 false),.bool false]))
  (hW:∀w,cB 260 #[.string s] w (.tuple #[.agg (movC f g 0 0 false),.bool true])) (w:World):
  Calls prog 166 #[.agg (posC c),.string s] w fun r w'=>r= .returned (.tuple #[.agg (movC f g 0 0 false),.int .i64 0])∧Below w.heap.size w w':=by
 have HKn:Hid (∀W,cB 254 #[.agg (posC c)] W (.bool true)):=hid (fun W=>by rw [←hk];exact zd3 c W)
 have HC0:=hid (fun(p0 p1:Nat) w h1 h2=>zg0 c s p0 p1 0 0 0 0 false false hR w h1 h2)
 have HC1:=hid (fun(p1:Nat) w h2=>zg3 s p1 0 0 0 0 false false hD w h2)
 have HC2:=hid (fun(p1:Nat) w h2=>zf3 s p1 f g 0 0 false true hW w h2)
 clear hR hD hW hk
 have H0:=hid (PsAt.start w c s)
 go_enter func166,ntmps166
 go_wp2_with (first
  |((with_reducible refine ze rfl _ rfl ?_);refine⟨_,c,rfl,H0.p,?_⟩)
  |(go_at_call 254;(with_reducible refine(HKn.out _).mono ?_);rintro e w1 ⟨rfl,hb1⟩;have H1:=hid (H0.next hb1);clear hb1))
 have h2:=RowAt.new w1 (Ps.fs w.heap.size) 281
 have h1:=H1.next ((Below.refl _ _).alloc (Nat.le_refl _) (.cells (Ps.fs w.heap.size) 281))
 have h3:w.heap.size+2<w1.heap.size:=H1.res.lt
 generalize w1.alloc (.cells (Ps.fs w.heap.size) 281)=W2 at h1 h2⊢
 generalize w1.heap.size=b at h2 h3⊢
 have HG:=hid (And.intro h1 (And.intro h2 h3))
 have q0:=h2.cell 0
 rw [Ps.fs0]at q0
 have q1:=h2.cell 1
 rw [Ps.fs1]at q1
 have q2:=h2.cell 2
 rw [Ps.fs2]at q2
 clear h1 h2 h3 H1 H0 HKn
 refine wp_loop_rounds 4 ?_
 rw [rounds_succ]
 go_wp2_with (first
  |(go_at_call 255;(with_reducible refine(HC0.out _ _ _ HG.out.1.p HG.out.1.s).mono ?_);rintro e wc0 ⟨rfl,hb⟩;have HW0:=hid (And.intro (HG.1.next hb) (And.intro (HG.2.1.below hb) (And.intro HG.2.2 (Nat.lt_of_lt_of_le HG.2.1.lt hb.size))));clear hb)
  |((with_reducible refine zb rfl 47 _ _ rfl ?_);refine⟨wc0.heap.size,47,movC 0 0 0 0 false,rfl,rfl,⟨_,heap_alloc_new _ _,kr⟩,info_mvB _ _ _ _ _,one_mvB _ _ _ _ _,?_⟩;intro V0 hP hq;have HV0:=hid (And.intro ((HW0.1.next bA).other hP (Nat.lt_trans HW0.2.2.1 HW0.2.2.2)) (And.intro (hP.row (HW0.2.1.alloc _) (Nat.ne_of_lt HW0.2.2.2)) (And.intro HW0.2.2.1 hq)));have q0:=HV0.2.1.cell 0;rw [Ps.fs0]at q0;have q1:=HV0.2.1.cell 1;rw [Ps.fs1]at q1;have q2:=HV0.2.1.cell 2;rw [Ps.fs2]at q2;clear hP hq)
  |((with_reducible refine zj rfl 47 _ rfl underlying47 rfl ?_);refine⟨_,_,_,rfl,HV0.2.2.2,info_mvB _ _ _ _ _,?_⟩)
  |((with_reducible refine zb rfl 47 _ _ rfl ?_);refine⟨w.heap.size+2,47,movC 0 0 0 0 false,rfl,rfl,⟨_,HV0.1.res.heap,kr⟩,info_mvB _ _ _ _ _,one_mvB _ _ _ _ _,?_⟩;intro W9 hP9 hq9;have HB:=hid (hP9.below HV0.1.below om)))
 have HX0:=hid (And.intro HV0.1 (And.intro HV0.2.1 HV0.2.2.1))
 rw [rounds_succ]
 go_wp2_with (first
  |(go_at_call 257;(with_reducible refine(HC1.out _ _ HX0.out.1.s).mono ?_);rintro e wc1 ⟨rfl,hb⟩;have HW1:=hid (And.intro (HX0.1.next hb) (And.intro (HX0.2.1.below hb) (And.intro HX0.2.2 (Nat.lt_of_lt_of_le HX0.2.1.lt hb.size))));clear hb)
  |((with_reducible refine zb rfl 47 _ _ rfl ?_);refine⟨wc1.heap.size,47,movC 0 0 0 0 false,rfl,rfl,⟨_,heap_alloc_new _ _,kr⟩,info_mvB _ _ _ _ _,one_mvB _ _ _ _ _,?_⟩;intro V1 hP hq;have HV1:=hid (And.intro ((HW1.1.next bA).other hP (Nat.lt_trans HW1.2.2.1 HW1.2.2.2)) (And.intro (hP.row (HW1.2.1.alloc _) (Nat.ne_of_lt HW1.2.2.2)) (And.intro HW1.2.2.1 hq)));have q0:=HV1.2.1.cell 0;rw [Ps.fs0]at q0;have q1:=HV1.2.1.cell 1;rw [Ps.fs1]at q1;have q2:=HV1.2.1.cell 2;rw [Ps.fs2]at q2;clear hP hq)
  |((with_reducible refine zj rfl 47 _ rfl underlying47 rfl ?_);refine⟨_,_,_,rfl,HV1.2.2.2,info_mvB _ _ _ _ _,?_⟩)
  |((with_reducible refine zb rfl 47 _ _ rfl ?_);refine⟨w.heap.size+2,47,movC 0 0 0 0 false,rfl,rfl,⟨_,HV1.1.res.heap,kr⟩,info_mvB _ _ _ _ _,one_mvB _ _ _ _ _,?_⟩;intro W9 hP9 hq9;have HB:=hid (hP9.below HV1.1.below om)))
 have HX1:=hid (And.intro HV1.1 (And.intro HV1.2.1 HV1.2.2.1))
 rw [rounds_succ]
 go_wp2_with (first
  |(go_at_call 259;(with_reducible refine(HC2.out _ _ HX1.out.1.s).mono ?_);rintro e wc2 ⟨rfl,hb⟩;have HW2:=hid (And.intro (HX1.1.next hb) (And.intro (HX1.2.1.below hb) (And.intro HX1.2.2 (Nat.lt_of_lt_of_le HX1.2.1.lt hb.size))));clear hb)
  |((with_reducible refine zb rfl 47 _ _ rfl ?_);refine⟨wc2.heap.size,47,movC f g 0 0 false,rfl,rfl,⟨_,heap_alloc_new _ _,kr⟩,info_mvB _ _ _ _ _,one_mvB _ _ _ _ _,?_⟩;intro V2 hP hq;have HV2:=hid (And.intro ((HW2.1.next bA).other hP (Nat.lt_trans HW2.2.2.1 HW2.2.2.2)) (And.intro (hP.row (HW2.2.1.alloc _) (Nat.ne_of_lt HW2.2.2.2)) (And.intro HW2.2.2.1 hq)));have q0:=HV2.2.1.cell 0;rw [Ps.fs0]at q0;have q1:=HV2.2.1.cell 1;rw [Ps.fs1]at q1;have q2:=HV2.2.1.cell 2;rw [Ps.fs2]at q2;clear hP hq)
  |((with_reducible refine zj rfl 47 _ rfl underlying47 rfl ?_);refine⟨_,_,_,rfl,HV2.2.2.2,info_mvB _ _ _ _ _,?_⟩)
  |((with_reducible refine zb rfl 47 _ _ rfl ?_);refine⟨w.heap.size+2,47,movC f g 0 0 false,rfl,rfl,⟨_,HV2.1.res.heap,kr⟩,info_mvB _ _ _ _ _,one_mvB _ _ _ _ _,?_⟩;intro W9 hP9 hq9;have HB:=hid (hP9.below HV2.1.below om)))
 exact bodyPost_ret (zv results166 _ _ (w.heap.size+2) 47 _ (0,0) _ rfl hq9.heap underlying47 rfl (info_mvB _ _ _ _ _)) rfl ⟨rfl,HB⟩
theorem za3(c:Nat→Int){p q r t:UInt8}{f g:Nat}(h:Ps.Ok c 0 4 79)(hs:Ps.Txt p q r t f g)(hf:f≠4)(w:World):
  Calls prog 166 #[.agg (posC c),.string ⟨#[p,q,r,t]⟩] w fun r w'=>r= .returned (.tuple #[.agg (movC f g 0 0 false),.int .i64 0])∧Below w.heap.size w w':=by
 refine zcz c _ f g (by unfold N.kn;rw [h.v,h.t];rfl) (fun W=>zhS c _ h ⟨?_,?_⟩ W) (fun W=>psdrop p q r t hs.hq W) (fun W=>pswalk hs W) w
 all_goals
  rw [←Bool.not_eq_true]
  intro e
  have e:=congrArg (fun x:ByteArray=>x.data.toList.take 2) (psbytes e)
  have e:[(101:UInt8),49]=[p,q]:=e
  obtain⟨a,b⟩:=N.tx_two' (s:=f) (a:=101) (b:=49) (by rw [←hs.a];exact congrArg (fun l:List UInt8=>(⟨l.toArray⟩:ByteArray)) e)
  exact hf (N.sq_inj (f:=4) dc hs.hf a b).symm
theorem zds(c:Nat→Int){p q r t:UInt8}{f g:Nat}(h:Ps.Ok c 1 60 81)(hs:Ps.Txt p q r t f g)(hf:f≠60)(w:World):
  Calls prog 166 #[.agg (posC c),.string ⟨#[p,q,r,t]⟩] w fun r w'=>r= .returned (.tuple #[.agg (movC f g 0 0 false),.int .i64 0])∧Below w.heap.size w w':=by
 refine zcz c _ f g (by unfold N.kn;rw [h.v,h.t];rfl) (fun W=>zhm c _ h ⟨?_,?_⟩ W) (fun W=>psdrop p q r t hs.hq W) (fun W=>pswalk hs W) w
 all_goals
  rw [←Bool.not_eq_true]
  intro e
  have e:=congrArg (fun x:ByteArray=>x.data.toList.take 2) (psbytes e)
  have e:[(101:UInt8),56]=[p,q]:=e
  obtain⟨a,b⟩:=N.tx_two' (s:=f) (a:=101) (b:=56) (by rw [←hs.a];exact congrArg (fun l:List UInt8=>(⟨l.toArray⟩:ByteArray)) e)
  exact hf (N.sq_inj (f:=60) dc hs.hf a b).symm
end Go.Proofs.YtbakeajgolhkgaaGreatDoor
