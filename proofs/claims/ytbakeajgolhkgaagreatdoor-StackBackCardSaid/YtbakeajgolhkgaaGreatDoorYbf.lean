import Derived.Test.YtbakeajgolhkgaaGreatDoorYbe
import Derived.Test.YtbakeajgolhkgaaGreatDoorZl
set_option maxRecDepth 100000
set_option maxHeartbeats 8000000
open Go.Lib (hid)
namespace Go.Proofs.YtbakeajgolhkgaaGreatDoor
open Go.Proofs.Tryz
open Go.RowKit Go.Sort
def Lg.bareR(m1 m2:Bool)(t:Int):Array Value:=if m1=false then Lg.res (1+t) 8 else if m2=false then Lg.res (1+(1-t)) 8 else Lg.res 0 0
theorem zgd(c:Nat→Int)(w:World)(hc:PosOk c)(t:Int)(ht:c 78=t)(h01:t=0∨t=1):cB 183 #[.agg (posC c)] w (.agg (Lg.bareR (G.men c t) (G.men c (1-t)) t)):=by
 have hu:IntKind.u8.wrap (1-t)=1-t:=by rw [IntKind.wrap_u8];omega
 have HW:=hid (fun z (h:z=1-t∨z=t) W=>zaQ z 8 W om)
 have hU1:=Lg.of_zero c t
 have hU2:=Lg.of_zero c (1-t)
 have HO:=hid (fun z W=>zO c z 0 W (zw hc))
 obtain⟨m1,hm1⟩:∃b,G.men c t=b:=⟨_,rfl⟩
 obtain⟨m2,hm2⟩:∃b,G.men c (1-t)=b:=⟨_,rfl⟩
 rw [hm1]at hU1⊢
 rw [hm2]at hU2⊢
 have hp:=(PosAt.new w c).alloc (.cells #[.int .u8 0,.int .u8 0] 49)
 have hr:=RowAt.new (w.alloc (.cells (posC c) 31)) #[.int .u8 0,.int .u8 0] 49
 have hb:Below w.heap.size w ((w.alloc (.cells (posC c) 31)).alloc (.cells #[.int .u8 0,.int .u8 0] 49)):=bA.alloc sp _
 rw [World.size_alloc]at hr
 have k78:=hp.cellK 78 dc .u8 rfl
 rw [ht]at k78
 have hlt:=hr.lt
 clear hc hm1 hm2 ht h01
 go_enter func183,ntmps183
 go_upto_region 1 with fail
 obtain⟨W1,hW1⟩:∃W,((w.alloc (.cells (posC c) 31)).alloc (.cells #[.int .u8 0,.int .u8 0] 49))=W:=⟨_,rfl⟩
 rw [hW1]at hp hr hb k78 hlt⊢
 clear hW1
 go_wp2
 have hl:=RowAt.new W1 #[.int .u8 t,.int .u8 (1-t)] 5
 have HB0:=hid (And.intro (hr.alloc (.cells #[.int .u8 t,.int .u8 (1-t)] 5)) (And.intro hl (And.intro (hb.alloc hb.size (.cells #[.int .u8 t,.int .u8 (1-t)] 5)) (hp.alloc (.cells #[.int .u8 t,.int .u8 (1-t)] 5)))))
 obtain⟨lb,hlb⟩:∃n,W1.heap.size=n:=⟨_,rfl⟩
 rw [hlb]at HB0⊢
 clear hp hr hb k78 hl hlb hlt
 go_loopw [4,12] (fun _ i wr=>∃k:Nat,k≤2∧i= .int .i64 (k:Int)∧Hid ((0<k→m1=true)∧(1<k→m2=true))∧Hid (RowAt wr (w.heap.size+1) 49 #[.int .u8 0,.int .u8 0]∧RowAt wr lb 5 #[.int .u8 t,.int .u8 (1-t)]∧Below w.heap.size w wr∧PosAt wr w.heap.size c)) (fun _ i _=>2-(intOf i).toNat)
 case atStart=>exact⟨0,by omega,rfl,hid ⟨fun h=>by omega,fun h=>by omega⟩,HB0⟩
 case round=>
  obtain⟨k,hk,rfl,HG,HB⟩:=hrel
  have hp:=HB.2.2.2
  rcases(show k=0∨k=1∨k=2 by omega)with rfl|rfl|rfl
  ·have c0:wr.cell? ⟨lb,0,none⟩=some (.int .u8 t):=HB.2.1.cell 0
   cases m1
   case true=>
    go_wp2_with (first
     |((with_reducible refine ze rfl _ rfl ?_);refine⟨_,_,rfl,hp,?_⟩)
     |(go_at_call 134;refine(HO _ _).mono ?_;rintro e w2 ⟨rfl,hb2⟩))
    exact⟨⟨1,by omega,rfl,hid sp,hid ⟨HB.1.below hb2,HB.2.1.below hb2,za HB.2.2.1 hb2,hp.below hb2⟩⟩,by simp [intOf]⟩
   case false=>
    go_wp2_with (first
     |((with_reducible refine ze rfl _ rfl ?_);refine⟨_,_,rfl,hp,?_⟩)
     |(go_at_call 134;refine(HO _ _).mono ?_;rintro e w2 ⟨rfl,hb2⟩;have hr:=HB.1.below hb2;have hb:=za HB.2.2.1 hb2;clear hb2)
     |(go_at_call 264;refine(HW _ (.inr rfl) _).mono ?_;rintro e w3 ⟨rfl,hb2⟩;replace hr:=hr.below hb2;replace hb:=za hb hb2;clear hb2)
     |((with_reducible refine zb rfl 49 _ _ rfl ?_);refine⟨w.heap.size+1,49,Lg.res _ _,rfl,rfl,⟨_,hr.heap,rfl⟩,Lg.size_res,Lg.res_one _ _,?_⟩;intro W9 hP9 hr9))
    exact bodyPost_ret (results_cell_row results183 _ _ (w.heap.size+1) 49 _ (0,0) _ rfl hr9.heap underlying49 rfl Lg.size_res) rfl ⟨rfl,hP9.below hb om⟩
  ·have c0:wr.cell? ⟨lb,1,none⟩=some (.int .u8 (1-t)):=HB.2.1.cell 1
   obtain rfl:=HG.1 om
   cases m2
   case true=>
    go_wp2_with (first
     |((with_reducible refine ze rfl _ rfl ?_);refine⟨_,_,rfl,hp,?_⟩)
     |(go_at_call 134;refine(HO _ _).mono ?_;rintro e w2 ⟨rfl,hb2⟩))
    exact⟨⟨2,by omega,rfl,hid sp,hid ⟨HB.1.below hb2,HB.2.1.below hb2,za HB.2.2.1 hb2,hp.below hb2⟩⟩,by simp [intOf]⟩
   case false=>
    go_wp2_with (first
     |((with_reducible refine ze rfl _ rfl ?_);refine⟨_,_,rfl,hp,?_⟩)
     |(go_at_call 134;refine(HO _ _).mono ?_;rintro e w2 ⟨rfl,hb2⟩;have hr:=HB.1.below hb2;have hb:=za HB.2.2.1 hb2;clear hb2)
     |(go_at_call 264;refine(HW _ (.inl rfl) _).mono ?_;rintro e w3 ⟨rfl,hb2⟩;replace hr:=hr.below hb2;replace hb:=za hb hb2;clear hb2)
     |((with_reducible refine zb rfl 49 _ _ rfl ?_);refine⟨w.heap.size+1,49,Lg.res _ _,rfl,rfl,⟨_,hr.heap,rfl⟩,Lg.size_res,Lg.res_one _ _,?_⟩;intro W9 hP9 hr9))
    exact bodyPost_ret (results_cell_row results183 _ _ (w.heap.size+1) 49 _ (0,0) _ rfl hr9.heap underlying49 rfl Lg.size_res) rfl ⟨rfl,hP9.below hb om⟩
  ·obtain rfl:=HG.1 om
   obtain rfl:=HG.2 om
   have hr:=HB.1
   have hb:=HB.2.2.1
   clear hp
   go_wp2_with ((with_reducible refine zb rfl 49 _ _ rfl ?_);refine⟨w.heap.size+1,49,Lg.res _ _,rfl,rfl,⟨_,hr.heap,rfl⟩,Lg.size_res,Lg.res_one _ _,?_⟩;intro W9 hP9 hr9)
   exact bodyPost_ret (results_cell_row results183 _ _ (w.heap.size+1) 49 _ (0,0) _ rfl hr9.heap underlying49 rfl Lg.size_res) rfl ⟨rfl,hP9.below hb om⟩
theorem zcB(c:Nat→Int)(pb:Nat)(z:Int)(W:World)(hc:PosOk c)(hT:Tb W)(hp:PosAt W pb c):cB 268 #[.int .u8 z,.pointer (some ⟨pb,0,none⟩)] W (.bool (G.goal c z)):=by
 have HF:=hid (zW c z 6 W (zw hc) hT)
 unfold G.goal
 obtain⟨n,hn⟩:∃n,S.find c z 6=n:=⟨_,rfl⟩
 rw [hn]at HF⊢
 clear hc hT hn
 go_enter func268,ntmps268
 go_wp2_with (first
  |((with_reducible refine ze rfl _ rfl ?_);refine⟨_,_,rfl,hp,?_⟩)
  |(go_at_call 132;refine HF.mono ?_;rintro e w2 ⟨rfl,hb2⟩))
 go_ret
 exact⟨rfl,hb2⟩
theorem Lg.pred_comes(c:Nat→Int)(kb:Nat)(l:List Mv)(w:World)(hk:w.cell? ⟨kb,0,none⟩=some (.int .i64 (S.find c 1 6)))(hl:∀m,m∈l→-128≤m.1∧m.1≤127):Lg.Pred 269 kb l (G.comes c) w.heap.size w:=by
 intro W hW m hm
 have hb7:=hl m hm
 obtain⟨f',t',p',d',c'⟩:=m
 have hkl:=World.block_lt_of_cell? w _ hk
 have hk':=(hW.cell (p:=⟨kb,0,none⟩) hkl).trans hk
 have hk2:=(((Below.refl W.heap.size W).alloc (Nat.le_refl _) (.cells #[.int .i8 f',.int .i8 t',.int .u8 p',.int .u8 d',.bool c'] 47)).cell (p:=⟨kb,0,none⟩) (World.block_lt_of_cell? W _ hk')).trans hk'
 have hr:=RowAt.new W #[.int .i8 f',.int .i8 t',.int .u8 p',.int .u8 d',.bool c'] 47
 have hb:=(Below.refl W.heap.size W).alloc (Nat.le_refl _) (.cells #[.int .i8 f',.int .i8 t',.int .u8 p',.int .u8 d',.bool c'] 47)
 obtain⟨n,hn⟩:∃n,S.find c 1 6=n:=⟨_,rfl⟩
 have hw:wrap64 f'=f':=H.w f' (by have:=hb7;simp only at this;omega)
 have HE:=hid (show G.comes c (f',t',p',d',c')=(f'==n&&decide (56≤t')) by unfold G.comes;rw [hn])
 rw [hn]at hk2
 obtain⟨W1,hW1⟩:∃W1,W.alloc (.cells #[.int .i8 f',.int .i8 t',.int .u8 p',.int .u8 d',.bool c'] 47)=W1:=⟨_,rfl⟩
 rw [hW1]at hk2 hr hb
 have c0:W1.cell? ⟨W.heap.size,0,none⟩=some (.int .i8 f'):=hr.cell 0
 have c1:W1.cell? ⟨W.heap.size,1,none⟩=some (.int .i8 t'):=hr.cell 1
 clear hl hm hW hk hk' hb7 hkl hn hr
 unfold M.cell
 cases he:(f'==n)
 all_goals
  rw [he]at HE
  go_enter func269,ntmps269
  go_wp2
  go_ret
  exact⟨zy (by rw [HE.out];first|rfl|simp),hb⟩
theorem Lg.size_int:(prog.info? 3).map (·.size)=some 1:=by kernel_rfl
def Lg.goalR(g0 g1:Bool)(t:Int)(y:Bool):Int×Int:=
 if g0=true∧g1=true then(3,6)else if g1=true then(2,6)else if g0=false then(0,0)else if t=0 then(1,6)else if y=true then(0,0)else(1,6)
def Lg.resP(r:Int×Int):Array Value:=Lg.res r.1 r.2
theorem zfs(c:Nat→Int)(w:World)(hc:PosOk c)(hT:Tb w)(t:Int)(ht:c 78=t)(h01:t=0∨t=1):cB 184 #[.agg (posC c)] w (.agg (Lg.resP (Lg.goalR (G.goal c 0) (G.goal c 1) t ((G.would c).any (G.comes c))))):=by
 have hp:=(PosAt.new w c).alloc (.cells #[.int .u8 0,.int .u8 0] 49)
 have hr:=RowAt.new (w.alloc (.cells (posC c) 31)) #[.int .u8 0,.int .u8 0] 49
 have hb:Below w.heap.size w ((w.alloc (.cells (posC c) 31)).alloc (.cells #[.int .u8 0,.int .u8 0] 49)):=bA.alloc sp _
 rw [World.size_alloc]at hr
 have HW:=hid (fun z (h:z=0∨z=1) W=>zaQ z 6 W h)
 have HT:=hid (fun W (hb:Below w.heap.size w W)=>zi hT hb)
 obtain⟨g0,h0⟩:∃b,G.goal c 0=b:=⟨_,rfl⟩
 obtain⟨g1,h1⟩:∃b,G.goal c 1=b:=⟨_,rfl⟩
 obtain⟨y,hy⟩:∃b,(G.would c).any (G.comes c)=b:=⟨_,rfl⟩
 have HG:=hid (fun W (hq:PosAt W w.heap.size c) (h:Tb W)=>(fun z b (hz:z=0∧b=g0∨z=1∧b=g1)=>(by
  rcases hz with⟨rfl,rfl⟩|⟨rfl,rfl⟩
  ·exact h0▸zcB c _ _ W hc h hq
  ·exact h1▸zcB c _ _ W hc h hq:cB 268 #[.int .u8 z,.pointer (some ⟨w.heap.size,0,none⟩)] W (.bool b))))
 obtain⟨n,hn⟩:∃n,S.find c 1 6=n:=⟨_,rfl⟩
 have HF:=hid (fun W h=>hn▸zW c 1 6 W (zw hc) h)
 have HL:=hid (fun W h=>zdt c W hc h)
 have HC:=hid (fun(kb:Nat) (v:Value) W (hr:M.Reads W v (G.would c)) (hk:W.cell? ⟨kb,0,none⟩=some (.int .i64 n))=>hy▸zbn 269 kb zfH (G.would c) v (G.comes c) W hr (zeA c hc) (Lg.pred_comes c kb _ W (hn.symm▸hk) (fun m hm=>by
  obtain⟨F,G',p,d,ca,rfl,hf⟩:=A.fine_of c m hc (G.would_sub hm)
  have:=hf.F64
  show-128≤(F:Int)∧(F:Int)≤127
  omega)))
 have HK:=hid (fun W (h:PosAt W w.heap.size c)=>(show W.cell? ⟨w.heap.size,78,none⟩=some (.int .u8 t) by have:=h.cellK 78 dc .u8 rfl;rwa [ht]at this))
 rw [h0,h1,hy]
 clear hc hT ht h0 h1 hy hn
 go_enter func184,ntmps184
 go_upto_region 1 with fail
 obtain⟨W1,hW1⟩:∃W,((w.alloc (.cells (posC c) 31)).alloc (.cells #[.int .u8 0,.int .u8 0] 49))=W:=⟨_,rfl⟩
 rw [hW1]at hp hr hb⊢
 clear hW1
 cases g0<;>cases g1
 case false.false|true.true|false.true=>
  go_wp2_with (first
   |(go_at_call 268;refine(HG _ hp (HT _ hb) _ _ (by first|exact .inl ⟨rfl,rfl⟩|exact .inr ⟨rfl,rfl⟩)).mono ?_;rintro e w2 ⟨rfl,hb2⟩;replace hp:=hp.below hb2;replace hr:=hr.below hb2;replace hb:=za hb hb2;clear hb2)
   |(go_at_call 264;refine(HW _ (.inr rfl) _).mono ?_;rintro e w3 ⟨rfl,hb2⟩;replace hr:=hr.below hb2;replace hb:=za hb hb2;clear hb2)
   |((with_reducible refine zb rfl 49 _ _ rfl ?_);refine⟨w.heap.size+1,49,Lg.res _ _,rfl,rfl,⟨_,hr.heap,rfl⟩,Lg.size_res,Lg.res_one _ _,?_⟩;intro W9 hP9 hr9))
  exact bodyPost_ret (results_cell_row results184 _ _ (w.heap.size+1) 49 _ (0,0) _ rfl hr9.heap underlying49 rfl Lg.size_res) rfl ⟨rfl,hP9.below hb om⟩
 case true.false=>
  have k78:=HK _ hp
  rcases h01 with rfl|rfl
  ·go_wp2_with (first
    |(go_at_call 268;refine(HG _ hp (HT _ hb) _ _ (by first|exact .inl ⟨rfl,rfl⟩|exact .inr ⟨rfl,rfl⟩)).mono ?_;rintro e w2 ⟨rfl,hb2⟩;replace hp:=hp.below hb2;replace hr:=hr.below hb2;replace hb:=za hb hb2;clear hb2 k78;have k78:=HK _ hp)
    |(go_at_call 264;refine(HW _ (.inl rfl) _).mono ?_;rintro e w3 ⟨rfl,hb2⟩;replace hr:=hr.below hb2;replace hb:=za hb hb2;clear hb2 k78)
    |((with_reducible refine zb rfl 49 _ _ rfl ?_);refine⟨w.heap.size+1,49,Lg.res _ _,rfl,rfl,⟨_,hr.heap,rfl⟩,Lg.size_res,Lg.res_one _ _,?_⟩;intro W9 hP9 hr9))
   exact bodyPost_ret (results_cell_row results184 _ _ (w.heap.size+1) 49 _ (0,0) _ rfl hr9.heap underlying49 rfl Lg.size_res) rfl ⟨rfl,hP9.below hb om⟩
  ·cases y
   all_goals
    go_wp2_with (first
     |(go_at_call 268;refine(HG _ hp (HT _ hb) _ _ (by first|exact .inl ⟨rfl,rfl⟩|exact .inr ⟨rfl,rfl⟩)).mono ?_;rintro e w2 ⟨rfl,hb2⟩;replace hp:=hp.below hb2;replace hr:=hr.below hb2;replace hb:=za hb hb2;clear hb2 k78;have k78:=HK _ hp)
     |((with_reducible refine ze rfl _ rfl ?_);refine⟨_,_,rfl,hp,?_⟩)
     |(go_at_call 132;refine(HF _ (HT _ hb)).mono ?_;rintro e w4 ⟨rfl,hb2⟩;replace hp:=hp.below hb2;replace hr:=hr.below hb2;replace hb:=za hb hb2;clear hb2 k78)
     |((with_reducible refine zY rfl 3 _ _ rfl ?_);refine⟨w4.heap.size,0,3,#[.int .i64 0],.int .i64 n,rfl,rfl,rfl,⟨heap_alloc_new _ _⟩,dc,Lg.size_int,?_⟩;intro W5 hP5 hr5;obtain⟨kb,hkb⟩:∃q,w4.heap.size=q:=⟨_,rfl⟩;have hb5:Below w4.heap.size w4 W5:=hP5.below bA (Nat.le_refl _);replace hp:=hp.below hb5;replace hr:=hr.below hb5;replace hb:=za hb hb5;rw [hkb]at hr5⊢;clear hkb hb5 hP5)
     |(go_at_call 44;refine(HL _ (HT _ hb)).mono ?_;rintro e w6 ⟨v6,rfl,hv6,hb2⟩;have HV6:=hid hv6;replace hr5:=hr5.below hb2;replace hr:=hr.below hb2;replace hb:=za hb hb2;clear hb2 hv6 hp)
     |(go_at_call 101;refine(HC _ _ _ HV6 (hr5.cell 0)).mono ?_;rintro e w7 ⟨rfl,hb2⟩;replace hr:=hr.below hb2;replace hb:=za hb hb2;clear hb2)
     |(go_at_call 264;refine(HW _ (.inl rfl) _).mono ?_;rintro e w8 ⟨rfl,hb2⟩;replace hr:=hr.below hb2;replace hb:=za hb hb2;clear hb2)
     |((with_reducible refine zb rfl 49 _ _ rfl ?_);refine⟨w.heap.size+1,49,Lg.res _ _,rfl,rfl,⟨_,hr.heap,rfl⟩,Lg.size_res,Lg.res_one _ _,?_⟩;intro W9 hP9 hr9))
    exact bodyPost_ret (results_cell_row results184 _ _ (w.heap.size+1) 49 _ (0,0) _ rfl hr9.heap underlying49 rfl Lg.size_res) rfl ⟨rfl,hP9.below hb om⟩
def Lg.fv(f:Nat):Value:= .func (.func f) #[] #[]
def Lg.winC:Array Value:= #[.nilFunc,.nilFunc,.nilFunc,Lg.fv 179,Lg.fv 183,Lg.fv 180,Lg.fv 181,Lg.fv 182,Lg.fv 184]
theorem Lg.size_win:(prog.info? 154).map (·.size)=some 9:=by kernel_rfl
theorem Lg.size_wi1:(prog.info? 153).map (·.size)=some 1:=by kernel_rfl
theorem Lg.win_one:Lg.winC.all (·.oneCell')=true:=by decide+kernel
theorem zaK(w:World):cB 90 #[] w (.agg Lg.winC):=by
 go_enter func90,ntmps90
 go_wp2_with ((with_reducible refine zb rfl 154 _ _ rfl ?_);refine⟨w.heap.size,154,Lg.winC,rfl,rfl,⟨_,heap_alloc_new _ _,rfl⟩,Lg.size_win,Lg.win_one,?_⟩;intro W9 hP9 hr9)
 exact bodyPost_ret (v:= .agg Lg.winC) (results_cell_row results90 _ _ w.heap.size 154 _ (0,0) _ rfl hr9.heap underlying154 rfl Lg.size_win) rfl ⟨rfl,hP9.below bA (Nat.le_refl _)⟩
theorem Lg.exec_index{P:Program}{ev:Operand→Value}{o:Oper}{T:TypeId}(x y:Operand){vx vy v:Value}{w:World}(h:(Instr.index T vx vy).run P w= .ok v w)(ho:o.op= .index T x y)(hx:ev x=vx)(hy:ev y=vy):(execOp ev o).run P w= .ok (.value v) w:=by
 unfold execOp
 simp only [ho,hx,hy,Sem.run_bind,h,Result.andThen_ok,Sem.run_pure]
theorem Lg.neq_fv(f:Nat)(W:World):(binOp .neq 50 (.func (.func f) #[] #[]) .nilFunc).run prog W= .ok (.bool true) W:=by kernel_rfl
theorem Lg.guard_fv(f:Nat)(W:World):(eqGuard .neq 50 (.tmp 18) (.const .nilFunc) (.func (.func f) #[] #[]) .nilFunc).run prog W= .ok () W:=by kernel_rfl
theorem Lg.neq_nil(W:World):(binOp .neq 50 .nilFunc .nilFunc).run prog W= .ok (.bool false) W:=by kernel_rfl
theorem Lg.guard_nil(W:World):(eqGuard .neq 50 (.tmp 18) (.const .nilFunc) .nilFunc .nilFunc).run prog W= .ok () W:=by kernel_rfl
theorem Lg.held{w W W':World}{c:Nat→Int}(h:PosAt W w.heap.size c∧RowAt W (w.heap.size+1) 49 #[.int .u8 0,.int .u8 0]∧Below w.heap.size w W)(hb:Below W.heap.size W W'):PosAt W' w.heap.size c∧RowAt W' (w.heap.size+1) 49 #[.int .u8 0,.int .u8 0]∧Below w.heap.size w W':=
 ⟨h.1.below hb,h.2.1.below hb,za h.2.2 hb⟩
theorem Lg.stored{w W:World}{c:Nat→Int}{g:Nat}{old x:Value}(h:PosAt W w.heap.size c∧RowAt W (w.heap.size+1) 49 #[.int .u8 0,.int .u8 0]∧Below w.heap.size w W)(hg:RowAt W g 153 #[old])(hn:w.heap.size+1<g):
  (PosAt (W.setCells g 0 [x]) w.heap.size c∧RowAt (W.setCells g 0 [x]) (w.heap.size+1) 49 #[.int .u8 0,.int .u8 0]∧Below w.heap.size w (W.setCells g 0 [x]))∧(W.setCells g 0 [x]).cell? ⟨g,0,none⟩=some x:=by
 have hP:=Lg.put_setCellsL g [x] 0 W
 refine⟨⟨hP.pos h.1 om,hP.row h.2.1 om,hP.below h.2.2 om⟩,?_⟩
 simp only [World.cell?,Lg.heap_setCellsO g _ [x] 0 W _ hg.heap]
 rfl
theorem zbR(c:Nat→Int)(w:World)(v:Nat)(f:Nat)(R:Array Value)(t:Int)(hv:c 0=(v:Int))(ht:c 78=t)(h01:t≤1)(hv9:v<9)(hR:R.size=2∧R.all (·.oneCell')=true)(hT:Tb w)(eg:∀args w,(callFunc f args).run prog w= .ok (.enter f args) w)(hF:∀W,Tb W→Calls prog f #[.agg (posC c)] W fun e w'=>e= .returned (.agg R)∧Below W.heap.size W w')
  (hix:∀W,(Instr.index 154 (.agg Lg.winC) (.int .u8 (v:Int))).run prog W= .ok (.agg #[.func (.func f) #[] #[]]) W):
  cB 43 #[.agg (posC c)] w (.agg R):=by
 have hp:=(PosAt.new w c).alloc (.cells #[.int .u8 0,.int .u8 0] 49)
 have hr:=RowAt.new (w.alloc (.cells (posC c) 31)) #[.int .u8 0,.int .u8 0] 49
 have hb:Below w.heap.size w ((w.alloc (.cells (posC c) 31)).alloc (.cells #[.int .u8 0,.int .u8 0] 49)):=bA.alloc sp _
 rw [World.size_alloc]at hr
 have HK:=hid (fun W (h:PosAt W w.heap.size c)=>(show W.cell? ⟨w.heap.size,0,none⟩=some (.int .u8 (v:Int))∧W.cell? ⟨w.heap.size,78,none⟩=some (.int .u8 t) by
  have k1:=h.cellK 0 dc .u8 rfl
  have k2:=h.cellK 78 dc .u8 rfl
  rw [hv]at k1
  rw [ht]at k2
  exact⟨k1,k2⟩))
 have hv9':(v:Int)<9:=by omega
 clear hv ht
 go_enter func43,ntmps43
 go_upto_region 1 with fail
 obtain⟨W1,hW1⟩:∃W,((w.alloc (.cells (posC c) 31)).alloc (.cells #[.int .u8 0,.int .u8 0] 49))=W:=⟨_,rfl⟩
 rw [hW1]at hp hr hb⊢
 clear hW1
 obtain⟨k0,k78⟩:=HK _ hp
 go_upto_region 3 with fail
 refine wp_region_held (S:=fun W=>PosAt W w.heap.size c∧RowAt W (w.heap.size+1) 49 #[.int .u8 0,.int .u8 0]∧Below w.heap.size w W) kr ?_
 have hS:PosAt W1.drew w.heap.size c∧RowAt W1.drew (w.heap.size+1) 49 #[.int .u8 0,.int .u8 0]∧Below w.heap.size w W1.drew:=⟨hp.drew,⟨hr.heap⟩,M.below_drew hb 1⟩
 clear hp hr hb k0 k78
 refine tq 1 14 (.pointer (some ⟨w.heap.size,0,none⟩)) hS ?_
 refine te 2 (some 15) (.int .u8 (v:Int)) (zt kr 5 (.tmp 14) kr ⟨w.heap.size,0,none⟩ kr (fun w9=>zV _ _ w9) (fun w9 h9=>(HK _ h9.1).1)) hS ?_
 refine wpAnyH_all (rs:=[0,4]) kr sp (fun i hi=> ?_)
 rcases(show i=0∨i=4 by simpa using hi)with rfl|rfl
 ·refine zaf 0 (some 13) 90 (#[]) (.agg Lg.winC) (fun W=>Below W1.drew.heap.size W1.drew W) kr kr kr kr (zaK _) (fun w2 hb2=> ?_)
  simp only [Act.put,sA,sB,sC]
  have hS2:=Lg.held hS hb2
  refine⟨hS2,?_⟩
  refine te 3 (some 16) (.agg #[.func (.func f) #[] #[]]) (zo (v0:= .agg #[.func (.func f) #[] #[]]) kr (fun W=>Lg.exec_index (T:=154) (.tmp 13) (.tmp 15) (hix W) kr kr kr) rfl) hS2 ?_
  refine wpAnyH_all (rs:=[4]) kr sp (fun j hj=> ?_)
  obtain rfl:j=4:=by simpa using hj
  clear hj
  refine zz 4 (some 3) (.pointer (some ⟨w2.heap.size,0,none⟩)) (w2.alloc (.cells #[.nilFunc] 153)) kr kr kr kr ?_
  simp only [Act.put,sA,sB,sC]
  have hS3:=Lg.held hS2 ((Below.refl _ _).alloc (Nat.le_refl _) (.cells #[.nilFunc] 153))
  refine⟨hS3,?_⟩
  have hgr:=RowAt.new w2 #[.nilFunc] 153
  have hgn:w.heap.size+1<w2.heap.size:=hS2.2.1.lt
  refine takeOne 5 kr kr kr ?_
  refine wp_store_mid 153 (.tmp 3) (.tmp 16) kr w2.heap.size 0 #[.func (.func f) #[] #[]] kr kr (fun j hj=> ?_) Lg.size_wi1 (by simp [Value.oneCell']) ?_
  ·obtain rfl:j=0:=Nat.lt_one_iff.1 hj
   exact⟨by rw [hgr.cell 0];rfl,hgr.frozen 0⟩
  obtain⟨hS5,c3⟩:=Lg.stored (x:= .func (.func f) #[] #[]) hS3 hgr hgn
  refine⟨hS5,?_⟩
  refine wpAnyH_done kr ?_ _
  obtain⟨W5,hW5⟩:∃W,(w2.alloc (.cells #[.nilFunc] 153)).setCells w2.heap.size 0 [.func (.func f) #[] #[]]=W:=⟨_,rfl⟩
  have hw5:(w2.alloc (.cells #[.nilFunc] 153)).setCells w2.heap.size 0 (#[.func (.func f) #[] #[]]:Array Value).toList=W5:=hW5
  rw [hW5]at hS5 c3
  rw [hw5]
  obtain⟨hp,hr,hb⟩:=hS5
  clear hW5 hw5
  obtain⟨g,hg⟩:∃n,w2.heap.size=n:=⟨_,rfl⟩
  rw [hg]at c3⊢
  clear hS hS2 hS3 hgr hgn hg hb2
  have hn1:=Lg.neq_fv f
  have hn2:=Lg.guard_fv f
  go_wp2_with (first
   |((with_reducible refine ze rfl _ rfl ?_);refine⟨_,_,rfl,hp,?_⟩)
   |(go_at_fn f;refine(hF _ (zi hT hb)).mono ?_;rintro e w7 ⟨rfl,hb7⟩;replace hr:=hr.below hb7;replace hb:=za hb hb7;clear hb7)
   |((with_reducible refine zb rfl 49 _ _ rfl ?_);refine⟨w.heap.size+1,49,R,rfl,rfl,⟨_,hr.heap,(by rw [hR.1];rfl)⟩,(by rw [hR.1];exact Lg.size_res),hR.2,?_⟩;intro W9 hP9 hr9))
  exact bodyPost_ret (results_cell_row results43 _ _ (w.heap.size+1) 49 _ (0,0) _ rfl hr9.heap underlying49 rfl (by rw [hR.1];exact Lg.size_res)) rfl ⟨rfl,hP9.below hb om⟩
 ·refine zz 4 (some 3) (.pointer (some ⟨W1.drew.heap.size,0,none⟩)) (W1.drew.alloc (.cells #[.nilFunc] 153)) kr kr kr kr ?_
  simp only [Act.put,sA,sB,sC]
  have hS3:=Lg.held hS ((Below.refl _ _).alloc (Nat.le_refl _) (.cells #[.nilFunc] 153))
  refine⟨hS3,?_⟩
  have hgr:=RowAt.new W1.drew #[.nilFunc] 153
  have hgn:w.heap.size+1<W1.drew.heap.size:=hS.2.1.lt
  refine wpAnyH_all (rs:=[0]) kr sp (fun j hj=> ?_)
  obtain rfl:j=0:=by simpa using hj
  clear hj
  refine zaf 0 (some 13) 90 (#[]) (.agg Lg.winC) (fun W=>Below (W1.drew.alloc (.cells #[.nilFunc] 153)).heap.size (W1.drew.alloc (.cells #[.nilFunc] 153)) W) kr kr kr kr (zaK _) (fun w2 hb2=> ?_)
  simp only [Act.put,sA,sB,sC]
  have hS2:=Lg.held hS3 hb2
  refine⟨hS2,?_⟩
  refine te 3 (some 16) (.agg #[.func (.func f) #[] #[]]) (zo (v0:= .agg #[.func (.func f) #[] #[]]) kr (fun W=>Lg.exec_index (T:=154) (.tmp 13) (.tmp 15) (hix W) kr kr kr) rfl) hS2 ?_
  replace hgr:=hgr.below hb2
  refine takeOne 5 kr kr kr ?_
  refine wp_store_mid 153 (.tmp 3) (.tmp 16) kr W1.drew.heap.size 0 #[.func (.func f) #[] #[]] kr kr (fun j hj=> ?_) Lg.size_wi1 (by simp [Value.oneCell']) ?_
  ·obtain rfl:j=0:=Nat.lt_one_iff.1 hj
   exact⟨by rw [hgr.cell 0];rfl,hgr.frozen 0⟩
  obtain⟨hS5,c3⟩:=Lg.stored (x:= .func (.func f) #[] #[]) hS2 hgr hgn
  refine⟨hS5,?_⟩
  refine wpAnyH_done kr ?_ _
  obtain⟨W5,hW5⟩:∃W,(w2).setCells W1.drew.heap.size 0 [.func (.func f) #[] #[]]=W:=⟨_,rfl⟩
  have hw5:(w2).setCells W1.drew.heap.size 0 (#[.func (.func f) #[] #[]]:Array Value).toList=W5:=hW5
  rw [hW5]at hS5 c3
  rw [hw5]
  obtain⟨hp,hr,hb⟩:=hS5
  clear hW5 hw5
  obtain⟨g,hg⟩:∃n,W1.drew.heap.size=n:=⟨_,rfl⟩
  rw [hg]at c3⊢
  clear hS hS2 hS3 hgr hgn hg hb2
  have hn1:=Lg.neq_fv f
  have hn2:=Lg.guard_fv f
  go_wp2_with (first
   |((with_reducible refine ze rfl _ rfl ?_);refine⟨_,_,rfl,hp,?_⟩)
   |(go_at_fn f;refine(hF _ (zi hT hb)).mono ?_;rintro e w7 ⟨rfl,hb7⟩;replace hr:=hr.below hb7;replace hb:=za hb hb7;clear hb7)
   |((with_reducible refine zb rfl 49 _ _ rfl ?_);refine⟨w.heap.size+1,49,R,rfl,rfl,⟨_,hr.heap,(by rw [hR.1];rfl)⟩,(by rw [hR.1];exact Lg.size_res),hR.2,?_⟩;intro W9 hP9 hr9))
  exact bodyPost_ret (results_cell_row results43 _ _ (w.heap.size+1) 49 _ (0,0) _ rfl hr9.heap underlying49 rfl (by rw [hR.1];exact Lg.size_res)) rfl ⟨rfl,hP9.below hb om⟩
theorem zcf(c:Nat→Int)(w:World)(v:Nat)(t:Int)(hv:c 0=(v:Int))(ht:c 78=t)(h01:t≤1)(hv9:v<9)
  (hix:∀W,(Instr.index 154 (.agg Lg.winC) (.int .u8 (v:Int))).run prog W= .ok (.agg #[.nilFunc]) W):
  cB 43 #[.agg (posC c)] w (.agg (Lg.res 0 0)):=by
 have hp:=(PosAt.new w c).alloc (.cells #[.int .u8 0,.int .u8 0] 49)
 have hr:=RowAt.new (w.alloc (.cells (posC c) 31)) #[.int .u8 0,.int .u8 0] 49
 have hb:Below w.heap.size w ((w.alloc (.cells (posC c) 31)).alloc (.cells #[.int .u8 0,.int .u8 0] 49)):=bA.alloc sp _
 rw [World.size_alloc]at hr
 have HK:=hid (fun W (h:PosAt W w.heap.size c)=>(show W.cell? ⟨w.heap.size,0,none⟩=some (.int .u8 (v:Int))∧W.cell? ⟨w.heap.size,78,none⟩=some (.int .u8 t) by
  have k1:=h.cellK 0 dc .u8 rfl
  have k2:=h.cellK 78 dc .u8 rfl
  rw [hv]at k1
  rw [ht]at k2
  exact⟨k1,k2⟩))
 have hv9':(v:Int)<9:=by omega
 clear hv ht
 go_enter func43,ntmps43
 go_upto_region 1 with fail
 obtain⟨W1,hW1⟩:∃W,((w.alloc (.cells (posC c) 31)).alloc (.cells #[.int .u8 0,.int .u8 0] 49))=W:=⟨_,rfl⟩
 rw [hW1]at hp hr hb⊢
 clear hW1
 obtain⟨k0,k78⟩:=HK _ hp
 go_upto_region 3 with fail
 refine wp_region_held (S:=fun W=>PosAt W w.heap.size c∧RowAt W (w.heap.size+1) 49 #[.int .u8 0,.int .u8 0]∧Below w.heap.size w W) kr ?_
 have hS:PosAt W1.drew w.heap.size c∧RowAt W1.drew (w.heap.size+1) 49 #[.int .u8 0,.int .u8 0]∧Below w.heap.size w W1.drew:=⟨hp.drew,⟨hr.heap⟩,M.below_drew hb 1⟩
 clear hp hr hb k0 k78
 refine tq 1 14 (.pointer (some ⟨w.heap.size,0,none⟩)) hS ?_
 refine te 2 (some 15) (.int .u8 (v:Int)) (zt kr 5 (.tmp 14) kr ⟨w.heap.size,0,none⟩ kr (fun w9=>zV _ _ w9) (fun w9 h9=>(HK _ h9.1).1)) hS ?_
 refine wpAnyH_all (rs:=[0,4]) kr sp (fun i hi=> ?_)
 rcases(show i=0∨i=4 by simpa using hi)with rfl|rfl
 ·refine zaf 0 (some 13) 90 (#[]) (.agg Lg.winC) (fun W=>Below W1.drew.heap.size W1.drew W) kr kr kr kr (zaK _) (fun w2 hb2=> ?_)
  simp only [Act.put,sA,sB,sC]
  have hS2:=Lg.held hS hb2
  refine⟨hS2,?_⟩
  refine te 3 (some 16) (.agg #[.nilFunc]) (zo (v0:= .agg #[.nilFunc]) kr (fun W=>Lg.exec_index (T:=154) (.tmp 13) (.tmp 15) (hix W) kr kr kr) rfl) hS2 ?_
  refine wpAnyH_all (rs:=[4]) kr sp (fun j hj=> ?_)
  obtain rfl:j=4:=by simpa using hj
  clear hj
  refine zz 4 (some 3) (.pointer (some ⟨w2.heap.size,0,none⟩)) (w2.alloc (.cells #[.nilFunc] 153)) kr kr kr kr ?_
  simp only [Act.put,sA,sB,sC]
  have hS3:=Lg.held hS2 ((Below.refl _ _).alloc (Nat.le_refl _) (.cells #[.nilFunc] 153))
  refine⟨hS3,?_⟩
  have hgr:=RowAt.new w2 #[.nilFunc] 153
  have hgn:w.heap.size+1<w2.heap.size:=hS2.2.1.lt
  refine takeOne 5 kr kr kr ?_
  refine wp_store_mid 153 (.tmp 3) (.tmp 16) kr w2.heap.size 0 #[.nilFunc] kr kr (fun j hj=> ?_) Lg.size_wi1 (by simp [Value.oneCell']) ?_
  ·obtain rfl:j=0:=Nat.lt_one_iff.1 hj
   exact⟨by rw [hgr.cell 0];rfl,hgr.frozen 0⟩
  obtain⟨hS5,c3⟩:=Lg.stored (x:= .nilFunc) hS3 hgr hgn
  refine⟨hS5,?_⟩
  refine wpAnyH_done kr ?_ _
  obtain⟨W5,hW5⟩:∃W,(w2.alloc (.cells #[.nilFunc] 153)).setCells w2.heap.size 0 [.nilFunc]=W:=⟨_,rfl⟩
  have hw5:(w2.alloc (.cells #[.nilFunc] 153)).setCells w2.heap.size 0 (#[.nilFunc]:Array Value).toList=W5:=hW5
  rw [hW5]at hS5 c3
  rw [hw5]
  obtain⟨hp,hr,hb⟩:=hS5
  clear hW5 hw5
  obtain⟨g,hg⟩:∃n,w2.heap.size=n:=⟨_,rfl⟩
  rw [hg]at c3⊢
  clear hS hS2 hS3 hgr hgn hg hb2
  have hn1:=Lg.neq_nil
  have hn2:=Lg.guard_nil
  go_wp2_with ((with_reducible refine zb rfl 49 _ _ rfl ?_);refine⟨w.heap.size+1,49,Lg.res 0 0,rfl,rfl,⟨_,hr.heap,rfl⟩,Lg.size_res,Lg.res_one _ _,?_⟩;intro W9 hP9 hr9)
  exact bodyPost_ret (results_cell_row results43 _ _ (w.heap.size+1) 49 _ (0,0) _ rfl hr9.heap underlying49 rfl Lg.size_res) rfl ⟨rfl,hP9.below hb om⟩
 ·refine zz 4 (some 3) (.pointer (some ⟨W1.drew.heap.size,0,none⟩)) (W1.drew.alloc (.cells #[.nilFunc] 153)) kr kr kr kr ?_
  simp only [Act.put,sA,sB,sC]
  have hS3:=Lg.held hS ((Below.refl _ _).alloc (Nat.le_refl _) (.cells #[.nilFunc] 153))
  refine⟨hS3,?_⟩
  have hgr:=RowAt.new W1.drew #[.nilFunc] 153
  have hgn:w.heap.size+1<W1.drew.heap.size:=hS.2.1.lt
  refine wpAnyH_all (rs:=[0]) kr sp (fun j hj=> ?_)
  obtain rfl:j=0:=by simpa using hj
  clear hj
  refine zaf 0 (some 13) 90 (#[]) (.agg Lg.winC) (fun W=>Below (W1.drew.alloc (.cells #[.nilFunc] 153)).heap.size (W1.drew.alloc (.cells #[.nilFunc] 153)) W) kr kr kr kr (zaK _) (fun w2 hb2=> ?_)
  simp only [Act.put,sA,sB,sC]
  have hS2:=Lg.held hS3 hb2
  refine⟨hS2,?_⟩
  refine te 3 (some 16) (.agg #[.nilFunc]) (zo (v0:= .agg #[.nilFunc]) kr (fun W=>Lg.exec_index (T:=154) (.tmp 13) (.tmp 15) (hix W) kr kr kr) rfl) hS2 ?_
  replace hgr:=hgr.below hb2
  refine takeOne 5 kr kr kr ?_
  refine wp_store_mid 153 (.tmp 3) (.tmp 16) kr W1.drew.heap.size 0 #[.nilFunc] kr kr (fun j hj=> ?_) Lg.size_wi1 (by simp [Value.oneCell']) ?_
  ·obtain rfl:j=0:=Nat.lt_one_iff.1 hj
   exact⟨by rw [hgr.cell 0];rfl,hgr.frozen 0⟩
  obtain⟨hS5,c3⟩:=Lg.stored (x:= .nilFunc) hS2 hgr hgn
  refine⟨hS5,?_⟩
  refine wpAnyH_done kr ?_ _
  obtain⟨W5,hW5⟩:∃W,(w2).setCells W1.drew.heap.size 0 [.nilFunc]=W:=⟨_,rfl⟩
  have hw5:(w2).setCells W1.drew.heap.size 0 (#[.nilFunc]:Array Value).toList=W5:=hW5
  rw [hW5]at hS5 c3
  rw [hw5]
  obtain⟨hp,hr,hb⟩:=hS5
  clear hW5 hw5
  obtain⟨g,hg⟩:∃n,W1.drew.heap.size=n:=⟨_,rfl⟩
  rw [hg]at c3⊢
  clear hS hS2 hS3 hgr hgn hg hb2
  have hn1:=Lg.neq_nil
  have hn2:=Lg.guard_nil
  go_wp2_with ((with_reducible refine zb rfl 49 _ _ rfl ?_);refine⟨w.heap.size+1,49,Lg.res 0 0,rfl,rfl,⟨_,hr.heap,rfl⟩,Lg.size_res,Lg.res_one _ _,?_⟩;intro W9 hP9 hr9)
  exact bodyPost_ret (results_cell_row results43 _ _ (w.heap.size+1) 49 _ (0,0) _ rfl hr9.heap underlying49 rfl Lg.size_res) rfl ⟨rfl,hP9.below hb om⟩
theorem Lg.yi_row{P:Program}{ops:Array Oper}{S:World→Prop}{a:Act}{o:Oper}(hw:Region.wanted o (yielded ops a.tmps)=true)(ty:TypeId)(x:Operand)(ho:o.op= .load ty x)(g:Nat)(T:TypeId)(cs:Array Value)(hx:a.eval x= .pointer (some ⟨g,0,none⟩))
  {d:TypeDesc} (hu:P.underlying ty=some d) (hd:(match d with| .struct _| .array _ _=>true|_=>false)=true) (hi:(P.info? ty).map (·.size)=some cs.size) (hS:∀w,S w→RowAt w g T cs):YieldsIf P ops S o (.agg cs) a:=
 .inl ⟨hw,fun w h=>by
  unfold execOp
  simp only [ho,hx,Instr.loadAt,Instr.sureAddr,Sem.run_bind,Sem.run_pure,Result.andThen_ok,run_loadVar_row _ g T ty cs (0,0) d (hS w h).heap hu hd hi]⟩
theorem Lg.field0(s y:Int)(w:World):(Instr.field 49 (.agg #[.int .u8 s,.int .u8 y]) 0).run prog w= .ok (.int .u8 s) w:=by kernel_rfl
theorem Lg.res_ok(s y:Int):(Lg.res s y).size=2∧(Lg.res s y).all (·.oneCell')=true:=⟨rfl,Lg.res_one _ _⟩
theorem Lg.firstR_eq(a b:Bool)(t y:Int):Lg.firstR a b t y=Lg.resP (if a=true then(1+(1-t),y)else if b=true then(1+t,y)else(0,0)):=by cases a<;>cases b<;>rfl
theorem Lg.bareR_eq(a b:Bool)(t:Int):Lg.bareR a b t=Lg.resP (if a=false then(1+t,8)else if b=false then(1+(1-t),8)else(0,0)):=by cases a<;>cases b<;>rfl
theorem Lg.ite_eq(b:Bool)(p q:Int×Int):(if b=true then Lg.res p.1 p.2 else Lg.res q.1 q.2)=Lg.resP (if b=true then p else q):=by cases b<;>rfl
theorem G.won_in(c:Nat→Int)(h:c 0<9∧c 78≤1)(v t:Int)(hv:c 0=v)(ht:c 78=t):G.won c=
  if v=3 then(if G.has c t=true then(0,0)else(1+(1-t),6))
  else if v=5 then(if 3≤c (84+(1-t).toNat)then(1+(1-t),7)else if 3≤c (84+t.toNat)then(1+t,7)else(0,0))
  else if v=6 then(if G.onHill c (1-t)=true then(1+(1-t),6)else if G.onHill c t=true then(1+t,6)else(0,0))
  else if v=7 then(if G.men c 0=true then(0,0)else(2,8))
  else if v=4 then(if G.men c t=false then(1+t,8)else if G.men c (1-t)=false then(1+(1-t),8)else(0,0))
  else if v=8 then
   (if G.goal c 0=true∧G.goal c 1=true then(3,6)else if G.goal c 1=true then(2,6)else if G.goal c 0=false then(0,0)
    else if t=0 then(1,6)else if(G.would c).any (G.comes c)=true then(0,0)else(1,6))
  else(0,0):=by
 unfold G.won
 rw [if_neg (fun k=>k h),ht,hv]
theorem zeQ(c:Nat→Int)(w:World)(hc:PosOk c)(hT:Tb w):cB 43 #[.agg (posC c)] w (.agg (Lg.resP (G.won c))):=by
 have v0:=zp hc (i:=0) dc rfl
 have t0:=zp hc (i:=78) dc rfl
 obtain⟨v,hv⟩:∃v:Nat,c 0=(v:Int):=⟨(c 0).toNat,by omega⟩
 obtain⟨t,ht⟩:∃t,c 78=t:=⟨_,rfl⟩
 by_cases h:c 0<9∧c 78≤1
 ·obtain⟨h9,h1⟩:=h
  have h01:t=0∨t=1:=by omega
  have hv9:v<9:=by omega
  have ht1:t≤1:=by omega
  have hW:=G.won_in c ⟨h9,h1⟩ _ _ hv ht
  rcases(show v=0∨v=1∨v=2∨v=3∨v=4∨v=5∨v=6∨v=7∨v=8 by omega)with rfl|rfl|rfl|rfl|rfl|rfl|rfl|rfl|rfl
  ·rw [show G.won c=(0,0)from hW]
   exact zcf c w 0 t hv ht ht1 hv9 (fun W=>by kernel_rfl)
  ·rw [show G.won c=(0,0)from hW]
   exact zcf c w 1 t hv ht ht1 hv9 (fun W=>by kernel_rfl)
  ·rw [show G.won c=(0,0)from hW]
   exact zcf c w 2 t hv ht ht1 hv9 (fun W=>by kernel_rfl)
  ·rw [show G.won c=if G.has c t=true then(0,0)else(1+(1-t),6)from hW,←Lg.ite_eq]
   exact zbR c w 3 _ _ t hv ht ht1 hv9 (by split<;>exact Lg.res_ok _ _) hT (enters_of func179 kr rfl) (fun W h=>zfi c W hc h t ht h01) (fun W=>by kernel_rfl)
  ·rw [show G.won c=if G.men c t=false then(1+t,8)else if G.men c (1-t)=false then(1+(1-t),8)else(0,0)from hW,←Lg.bareR_eq]
   exact zbR c w 4 _ _ t hv ht ht1 hv9 (by unfold Lg.bareR;split<;>(first|exact Lg.res_ok _ _|(split<;>exact Lg.res_ok _ _))) hT (enters_of func183 kr rfl) (fun W _=>zgd c W hc t ht h01) (fun W=>by kernel_rfl)
  ·rw [show G.won c=if decide (3≤c (84+(1-t).toNat))=true then(1+(1-t),7)else if decide (3≤c (84+t.toNat))=true then(1+t,7)else(0,0)from hW.trans sp,←Lg.firstR_eq]
   exact zbR c w 5 _ _ t hv ht ht1 hv9 ⟨Lg.firstR_size _ _ _ _,Lg.firstR_one _ _ _ _⟩ hT (enters_of func180 kr rfl) (fun W h=>zd9 c W hc h t ht h01) (fun W=>by kernel_rfl)
  ·rw [show G.won c=if G.onHill c (1-t)=true then(1+(1-t),6)else if G.onHill c t=true then(1+t,6)else(0,0)from hW,←Lg.firstR_eq]
   exact zbR c w 6 _ _ t hv ht ht1 hv9 ⟨Lg.firstR_size _ _ _ _,Lg.firstR_one _ _ _ _⟩ hT (enters_of func181 kr rfl) (fun W h=>zd6 c W hc h t ht h01) (fun W=>by kernel_rfl)
  ·rw [show G.won c=if G.men c 0=true then(0,0)else(2,8)from hW,←Lg.ite_eq]
   exact zbR c w 7 _ _ t hv ht ht1 hv9 (by split<;>exact Lg.res_ok _ _) hT (enters_of func182 kr rfl) (fun W _=>zeZ c W hc) (fun W=>by kernel_rfl)
  ·rw [show G.won c=Lg.goalR (G.goal c 0) (G.goal c 1) t ((G.would c).any (G.comes c))from hW]
   exact zbR c w 8 _ _ t hv ht ht1 hv9 (Lg.res_ok _ _) hT (enters_of func184 kr rfl) (fun W h=>zfs c W hc h t ht h01) (fun W=>by kernel_rfl)
 ·have hW:G.won c=(0,0):=by unfold G.won;rw [if_pos h]
  rw [hW]
  have hp:=(PosAt.new w c).alloc (.cells #[.int .u8 0,.int .u8 0] 49)
  have hr:=RowAt.new (w.alloc (.cells (posC c) 31)) #[.int .u8 0,.int .u8 0] 49
  have hb:Below w.heap.size w ((w.alloc (.cells (posC c) 31)).alloc (.cells #[.int .u8 0,.int .u8 0] 49)):=bA.alloc sp _
  rw [World.size_alloc]at hr
  have k0:=hp.cellK 0 dc .u8 rfl
  have k78:=hp.cellK 78 dc .u8 rfl
  obtain⟨x,hx⟩:∃x,c 0=x:=⟨_,rfl⟩
  rw [hx]at h k0
  rw [ht]at h k78
  clear hW hc hT v0 t0 hv ht hx
  have hdone:∀W9:World,Put (w.heap.size+1) ((w.alloc (.cells (posC c) 31)).alloc (.cells #[.int .u8 0,.int .u8 0] 49)) W9→Below w.heap.size w W9:=fun W9 h=>h.below hb om
  by_cases h9:9≤x
  ·clear h
   go_enter func43,ntmps43
   go_wp2_with ((with_reducible refine zb rfl 49 _ _ rfl ?_);refine⟨w.heap.size+1,49,Lg.res 0 0,rfl,rfl,⟨_,hr.heap,rfl⟩,Lg.size_res,Lg.res_one _ _,?_⟩;intro W9 hP9 hr9)
   exact bodyPost_ret (results_cell_row results43 _ _ (w.heap.size+1) 49 _ (0,0) _ rfl hr9.heap underlying49 rfl Lg.size_res) rfl ⟨rfl,hdone _ hP9⟩
  ·have h1:decide (9≤x)=false:=decide_eq_false h9
   have h2:decide (1<t)=true:=decide_eq_true om
   clear h h9
   go_enter func43,ntmps43
   go_wp2_with ((with_reducible refine zb rfl 49 _ _ rfl ?_);refine⟨w.heap.size+1,49,Lg.res 0 0,rfl,rfl,⟨_,hr.heap,rfl⟩,Lg.size_res,Lg.res_one _ _,?_⟩;intro W9 hP9 hr9)
   exact bodyPost_ret (results_cell_row results43 _ _ (w.heap.size+1) 49 _ (0,0) _ rfl hr9.heap underlying49 rfl Lg.size_res) rfl ⟨rfl,hdone _ hP9⟩
theorem zcd(c:Nat→Int)(w:World)(hc:PosOk c)(hT:Tb w):Calls prog 13 #[.agg (posC c)] w fun e w'=>∃v,e= .returned v∧M.Reads w' v (G.list c)∧Below w.heap.size w w':=by
 have hp:=PosAt.new w c
 have hb:Below w.heap.size w (w.alloc (.cells (posC c) 31)):=bA
 obtain⟨s,y,hsy⟩:∃s y,G.won c=(s,y):=⟨_,_,rfl⟩
 have HE:=hid (show G.list c=if s=0 then G.would c else [] by unfold G.list;rw [hsy])
 have HW:Hid (∀W,Tb W→cB 43 #[.agg (posC c)] W (.agg #[.int .u8 s,.int .u8 y])):=hid (fun W h=>by have:=zeQ c W hc h;rw [hsy]at this;exact this)
 have HL:=hid (fun W h=>zdt c W hc h)
 have HT:=hid (fun W (hb:Below w.heap.size w W)=>zi hT hb)
 clear hc hT hsy
 by_cases hs:s=0
 ·subst hs
  have HE2:=hid (HE.trans (if_pos rfl))
  clear HE
  have hfd:=Lg.field0 0 y
  go_enter func13,ntmps13
  go_wp2_with (first
   |((with_reducible refine ze rfl _ rfl ?_);refine⟨_,_,rfl,hp,?_⟩)
   |(go_at_call 43;refine(HW _ (HT _ hb)).mono ?_;rintro e w2 ⟨rfl,hb2⟩;replace hp:=hp.below hb2;replace hb:=za hb hb2;clear hb2)
   |(go_at_call 44;refine(HL _ (HT _ hb)).mono ?_;rintro e w3 ⟨v3,rfl,hr3,hb2⟩;have HR3:=hid hr3;replace hb:=za hb hb2;clear hb2 hr3))
  go_ret
  exact⟨_,rfl,by rw [HE2.out];exact HR3.out,hb⟩
 ·have hs':(s !=0)=true:=by rw [bne_iff_ne];exact hs
  have HE2:=hid (HE.trans (if_neg hs))
  clear HE hs
  have hfd:=Lg.field0 s y
  go_enter func13,ntmps13
  go_wp2_with (first
   |((with_reducible refine ze rfl _ rfl ?_);refine⟨_,_,rfl,hp,?_⟩)
   |(go_at_call 43;refine(HW _ (HT _ hb)).mono ?_;rintro e w2 ⟨rfl,hb2⟩;replace hp:=hp.below hb2;replace hb:=za hb hb2;clear hb2))
  go_ret
  exact⟨_,rfl,by rw [HE2.out];exact M.reads_own (World.ownsRow_nil w2 0 47 5),hb⟩
theorem zf4(c:Nat→Int)(hc:PosOk c):(G.list c).length≤100000:=by
 unfold G.list
 split
 ·exact zeA c hc
 ·simp
theorem ziQ(c:Nat→Int)(m:Mv)(w:World)(hc:PosOk c)(hT:Tb w):cB 27 #[.agg (posC c),.agg (M.cell m).toArray] w (.bool (decide (m∈G.list c))):=by
 obtain⟨f',t',p',d',c'⟩:=m
 have hp:=(PosAt.new w c).alloc (.cells #[.int .i8 f',.int .i8 t',.int .u8 p',.int .u8 d',.bool c'] 47)
 have hr:=RowAt.new (w.alloc (.cells (posC c) 31)) #[.int .i8 f',.int .i8 t',.int .u8 p',.int .u8 d',.bool c'] 47
 have hb:Below w.heap.size w ((w.alloc (.cells (posC c) 31)).alloc (.cells #[.int .i8 f',.int .i8 t',.int .u8 p',.int .u8 d',.bool c'] 47)):=bA.alloc sp _
 rw [World.size_alloc]at hr
 have HL:=hid (fun W h=>zcd c W hc h)
 have HC:=hid (fun v W (h:M.Reads W v (G.list c))=>zaX (G.list c) v f' t' p' d' c' W h (zf4 c hc))
 have HT:=hid (fun W (hb:Below w.heap.size w W)=>zi hT hb)
 obtain⟨b,hbb⟩:∃b,decide ((f',t',p',d',c')∈G.list c)=b:=⟨_,rfl⟩
 rw [hbb]at HC⊢
 clear hc hT hbb
 unfold M.cell
 go_enter func27,ntmps27
 go_upto_region 1 with fail
 obtain⟨W1,hW1⟩:∃W,((w.alloc (.cells (posC c) 31)).alloc (.cells #[.int .i8 f',.int .i8 t',.int .u8 p',.int .u8 d',.bool c'] 47))=W:=⟨_,rfl⟩
 rw [hW1]at hp hr hb⊢
 clear hW1
 refine wp_region_held (S:=fun W=>PosAt W w.heap.size c∧RowAt W (w.heap.size+1) 47 #[.int .i8 f',.int .i8 t',.int .u8 p',.int .u8 d',.bool c']∧Below w.heap.size w W) kr ?_
 have hS:PosAt W1.drew w.heap.size c∧RowAt W1.drew (w.heap.size+1) 47 #[.int .i8 f',.int .i8 t',.int .u8 p',.int .u8 d',.bool c']∧Below w.heap.size w W1.drew:=⟨hp.drew,⟨hr.heap⟩,M.below_drew hb 1⟩
 clear hp hr hb
 refine te 0 (some 5) (.agg (posC c)) (Lg.yi_row kr 31 (.tmp 2) kr w.heap.size 31 _ kr underlying31 rfl (zr c) (fun _ h=>⟨h.1.heap⟩)) hS ?_
 refine te 2 (some 7) (.agg #[.int .i8 f',.int .i8 t',.int .u8 p',.int .u8 d',.bool c']) (Lg.yi_row kr 47 (.tmp 3) kr (w.heap.size+1) 47 _ kr underlying47 rfl (Lg.size_mv _ rfl) (fun _ h=>h.2.1)) hS ?_
 refine takeCallE 1 (some 6) 13 (#[.agg (posC c)]) (fun v W=>M.Reads W v (G.list c)∧Below W1.drew.heap.size W1.drew W) kr kr kr kr kr (HL _ (HT _ hS.2.2)) (fun v2 w2 hR=> ?_)
 simp only [Act.put,sA,sB,sC]
 have hS2:PosAt w2 w.heap.size c∧RowAt w2 (w.heap.size+1) 47 #[.int .i8 f',.int .i8 t',.int .u8 p',.int .u8 d',.bool c']∧Below w.heap.size w w2:=⟨hS.1.below hR.2,hS.2.1.below hR.2,za hS.2.2 hR.2⟩
 refine⟨hS2,?_⟩
 refine tf 3 (some 8) 49 (#[v2,.agg #[.int .i8 f',.int .i8 t',.int .u8 p',.int .u8 d',.bool c']]) (.bool b) (fun W=>Below w2.heap.size w2 W) (HC _ _ hR.1) (fun w3 hb3=> ?_)
 have hS3:PosAt w3 w.heap.size c∧RowAt w3 (w.heap.size+1) 47 #[.int .i8 f',.int .i8 t',.int .u8 p',.int .u8 d',.bool c']∧Below w.heap.size w w3:=⟨hS2.1.below hb3,hS2.2.1.below hb3,za hS2.2.2 hb3⟩
 refine⟨hS3,?_⟩
 refine tq 4 4 (.bool b) hS3 ?_
 refine wpAnyH_done kr ?_ _
 go_wp2
 go_ret
 exact⟨rfl,hS3.2.2⟩
end Go.Proofs.YtbakeajgolhkgaaGreatDoor
