import Derived.Test.YtbakeajgolhkgaaGreatDoorYag
set_option maxRecDepth 100000
set_option maxHeartbeats 8000000
open Go.Lib (hid)
namespace Go.Proofs.YtbakeajgolhkgaaGreatDoor
open Go.Proofs.Tryz
section
open Go.RowKit Go.Sort
section
variable {ops:Array Oper} {Q:Exit→Act→World→Prop} {md:Region.Mode} {S:World→Prop} {fuel:Nat} {listed:Array Bool} {a:Act} {w:World}
theorem A.takeLoad(i:Nat)(d:Option Tmp)(ty:TypeId)(x:Operand)(b off:Nat)(cs:List Value){dd:TypeDesc}(ho:Nat.blt i ops.size=true)(hr:Region.ready md ops listed=[i])(hw:Region.wanted (ops.getD i default) (yielded ops a.tmps)=true)
  (hd:(ops.getD i default).dst=d) (hop:(ops.getD i default).op= .load ty x) (hx:a.eval x= .pointer (some ⟨b,off,none⟩)) (hp:w.rangeAt b off cs) (hu:prog.underlying ty=some dd) (hrow:dd.isRow=true) (hi:(prog.info? ty).map (·.size)=some cs.length)
  (h:S w∧wpAnyH prog md ops Q S fuel (listed.setIfInBounds i true) (a.put d (.agg cs.toArray)) w):wpAnyH prog md ops Q S (fuel+1) listed a w:=by
 refine takeOne i ho hr hw ?_
 refine wp_load_mid ty x hop b off hx cs _ hp hu hrow hi ?_
 rw [hd]
 exact h
theorem A.takeStoreQ(i:Nat)(ty:TypeId)(x y:Operand){b j:Nat}{q c:Nat→Int}{m:Mv}{t n:Int}{k:IntKind}(ho:Nat.blt i ops.size=true)(hr:Region.ready md ops listed=[i])(hw:Region.wanted (ops.getD i default) (yielded ops a.tmps)=true)
  (hd:(ops.getD i default).dst=none) (hop:(ops.getD i default).op= .store ty x y) (hx:a.eval x= .pointer (some ⟨b,j,none⟩)) (hy:a.eval y= .int k n) (hj:j<88) (hk:pk j=k) (hs:(prog.info? ty).map (·.size)=some 1) (hp:A.MvAt w b q c m t)
  (h:∀W':World,Put b w W'→A.MvAt W' b (upd q j n) c m t→S W'∧wpAnyH prog md ops Q S fuel (listed.setIfInBounds i true) a W'):wpAnyH prog md ops Q S (fuel+1) listed a w:=by
 refine takeOne i ho hr hw ?_
 refine zM ty x y hop hx hy hj hk hs hp fun W' h1 h2=> ?_
 rw [hd]
 exact h W' h1 h2
theorem A.takeStoreP(i:Nat)(x y:Operand){b:Nat}{q q' c:Nat→Int}{m:Mv}{t:Int}(ho:Nat.blt i ops.size=true)(hr:Region.ready md ops listed=[i])(hw:Region.wanted (ops.getD i default) (yielded ops a.tmps)=true)
  (hd:(ops.getD i default).dst=none) (hop:(ops.getD i default).op= .store 31 x y) (hx:a.eval x= .pointer (some ⟨b,0,none⟩)) (hy:a.eval y= .agg (posC q')) (hp:A.MvAt w b q c m t)
  (h:∀W':World,Put b w W'→A.MvAt W' b q' c m t→S W'∧wpAnyH prog md ops Q S fuel (listed.setIfInBounds i true) a W'):wpAnyH prog md ops Q S (fuel+1) listed a w:=by
 refine takeOne i ho hr hw ?_
 refine zco x y hop hx hy hp fun W' h1 h2=> ?_
 rw [hd]
 exact h W' h1 h2
end
end
section
open Go.RowKit Go.Sort
attribute [local go_sem] Oper.semAt_some
namespace A
theorem U_bs{n:Int}(h0:0≤n)(h1:n≤18446744073709551615):U (bs n)=n:=by
 unfold U bs
 rw [BitVec.toNat_ofInt]
 omega
theorem c65{c:Nat→Int}(h:PosOk c):U (bs (c 65))=c 65:=by
 have:=h 65 (by decide)
 rw [show pk 65= .u64 from rfl]at this
 have:=bounds_u64 this
 exact U_bs this.1 this.2
theorem and_1(x:BitVec 64):bits .and .u64 (U x) 1=U (bAnd x 1#64):=zeK x 1#64
theorem bit_test(x:BitVec 64)(n:Nat):(U (bAnd (bShr x n) 1#64)==1)=bit x n:=by
 have e:bAnd (bShr x n) 1#64=if bit x n=true then 1#64 else 0#64:=by
  unfold bAnd bShr bit
  apply BitVec.eq_of_getLsbD_eq
  intro i hi
  by_cases h:i=0
  ·subst h
   cases hb:x.getLsbD n<;>simp [hb]
  ·cases hb:x.getLsbD n<;>simp [h]<;>omega
 rw [e]
 cases bit x n<;>rfl
end A
theorem zR(c q:Nat→Int)(m:Mv)(t:Int)(b B:Nat)(s:Nat)(w:World)(hM:A.MvAt w b q c m t)(hB:w.cell? ⟨B,0,none⟩=some (.pointer (some ⟨b,0,none⟩)))(hc:PosOk c)(hs:s<64):
  cR 127 #[.int .i64 (s:Int),.pointer (some ⟨B,0,none⟩)] w (.bool (A.mark c (s:Int))) fun w'=>w=w':=by
 have h65:w.cell? ⟨b,153,none⟩=some (.int .u64 (U (A.bs (c 65)))):=by
  rw [A.c65 hc];exact hM.atc 65 (by decide) .u64 rfl
 have E:=hid (show A.mark c (s:Int)=bit (A.bs (c 65)) s by unfold A.mark;rfl)
 have hw:IntKind.u64.wrap (s:Int)=(s:Int):=by rw [IntKind.wrap_u64];omega
 have ha:=A.and_1 (bShr (A.bs (c 65)) s)
 have ht:=A.bit_test (A.bs (c 65)) s
 have hq:=zaC (A.bs (c 65)) s
 rw [Nat.min_eq_left om]at hq
 have HQ:=hid hq
 clear hc hq
 go_enter func127,ntmps127
 go_wp2
 go_ret
 exact⟨zy (by rw [E.out,←ht,HQ.out,ha]),rfl⟩
theorem A.size_u64A:(prog.info? 23).map (·.size)=some 1:=by kernel_rfl
theorem A.one_at(n:Nat)(h:n<64):IntKind.u64.wrap (2 ^ n)=U (B.one (n:Int)):=by
 have:=B.one_val (n:Int) om om
 rwa [Int.toNat_natCast]at this
theorem zgb(q c:Nat→Int)(F G:Nat)(p d:Int)(ca:Bool)(t:Int)(b:Nat)(w:World)(hM:A.MvAt w b q c ((F:Int),(G:Int),p,d,ca) t)(d1:(q 0 !=2)=true):
  cR 53 #[.pointer (some ⟨b,0,none⟩)] w (.tuple #[]) fun w'=>A.Step b (A.pocket c q ((F:Int),(G:Int),p,d,ca) t) c ((F:Int),(G:Int),p,d,ca) t w w':=by
 have h0:w.cell? ⟨b,0,none⟩=some (.int .u8 (q 0)):=hM.atq 0 (by decide) .u8 rfl
 have h179:w.cell? ⟨b,179,none⟩=some (.int .u8 d):=hM.atm 3 _ rfl
 have hlt:=hM.lt
 have E:=hid (show A.pocket c q ((F:Int),(G:Int),p,d,ca) t=q by unfold A.pocket;rw [if_pos (.inl (by simpa using d1))])
 have hB:=hM.alloc (.cells #[.pointer (some ⟨b,0,none⟩)] 106)
 go_enter func53,ntmps53
 go_wp2
 first|refine bodyPost_end (results_none rfl _ _ _) rfl ?_|refine bodyPost_ret (results_none rfl _ _ _) rfl ?_
 exact⟨rfl,⟨by rw [E.out];exact hB,A.below_step (World.grownBy.refl w _) bA⟩⟩
theorem zf7(q c:Nat→Int)(F G:Nat)(p d:Int)(ca:Bool)(t:Int)(b:Nat)(w:World)(hM:A.MvAt w b q c ((F:Int),(G:Int),p,d,ca) t)(d1:(q 0 !=2)=false)(d2:(d !=0)=true):
  cR 53 #[.pointer (some ⟨b,0,none⟩)] w (.tuple #[]) fun w'=>A.Step b (A.pocket c q ((F:Int),(G:Int),p,d,ca) t) c ((F:Int),(G:Int),p,d,ca) t w w':=by
 have h0:w.cell? ⟨b,0,none⟩=some (.int .u8 (q 0)):=hM.atq 0 (by decide) .u8 rfl
 have h179:w.cell? ⟨b,179,none⟩=some (.int .u8 d):=hM.atm 3 _ rfl
 have hlt:=hM.lt
 have E:=hid (show A.pocket c q ((F:Int),(G:Int),p,d,ca) t=q by unfold A.pocket;rw [if_pos (.inr (by simpa using d2))])
 have hB:=hM.alloc (.cells #[.pointer (some ⟨b,0,none⟩)] 106)
 go_enter func53,ntmps53
 go_wp2
 first|refine bodyPost_end (results_none rfl _ _ _) rfl ?_|refine bodyPost_ret (results_none rfl _ _ _) rfl ?_
 exact⟨rfl,⟨by rw [E.out];exact hB,A.below_step (World.grownBy.refl w _) bA⟩⟩
theorem A.bs_U(x:BitVec 64):A.bs (U x)=x:=by
 unfold A.bs U
 exact BitVec.eq_of_toNat_eq (by rw [BitVec.toNat_ofInt];have:=x.isLt;omega)
theorem A.re_mark(q:Nat→Int)(x y:BitVec 64):upd (upd q 65 (U (bAndn (A.bs (q 65)) x))) 65 (U (bOr (A.bs (upd q 65 (U (bAndn (A.bs (q 65)) x)) 65)) y))=upd (upd q 65 (U (bAndn (A.bs (q 65)) x))) 65 (U (bOr (bAndn (A.bs (q 65)) x) y)):=by
 rw [show upd q 65 (U (bAndn (A.bs (q 65)) x)) 65=U (bAndn (A.bs (q 65)) x) by simp [upd],A.bs_U]
theorem zfn(q c:Nat→Int)(F G:Nat)(p:Int)(t:Int)(b:Nat)(w:World)(hM:A.MvAt w b q c ((F:Int),(G:Int),p,0,true) t)(hF64:F<64)(hG64:G<64)(hc:PosOk c)(d1:(q 0 !=2)=false)(kg rg:Nat)(hgo:T.goalsV c (T.side c F G true)= .tuple #[.int .i64 (kg:Int),.int .i64 (rg:Int),.bool true])(hm:A.mark c (G:Int)=false):
  cR 53 #[.pointer (some ⟨b,0,none⟩)] w (.tuple #[]) fun w'=>A.Step b (A.pocket c q ((F:Int),(G:Int),p,0,true) t) c ((F:Int),(G:Int),p,0,true) t w w':=by
 have E:=hid (show A.pocket c q ((F:Int),(G:Int),p,0,true) t=q by
  unfold A.pocket
  rw [if_neg (fun h=>h.elim (fun h=>h (by simpa using d1)) (fun h=>h rfl)),if_pos rfl,if_neg (by rw [hm];simp)])
 have HGo:Hid (∀W,cB 124 #[.agg (posC c),.agg #[.int .i8 (F:Int),.int .i8 (G:Int),.int .u8 p,.int .u8 0,.bool true]] W (.tuple #[.int .i64 (kg:Int),.int .i64 (rg:Int),.bool true])):=hid (fun W=>by
  have:=zbU c (F:Int) (G:Int) p 0 true W hc om om
  rwa [hgo]at this)
 have hmi:=underlying47
 have hp31:=underlying31
 have HC:=hid hc
 skip
 have hw64:IntKind.i64.wrap (G:Int)=(G:Int):=by rw [IntKind.wrap_i64];omega
 have hw64':wrap64 (G:Int)=(G:Int):=by simp only [wrap64];omega
 have hM1:=hM.alloc (.cells #[.pointer (some ⟨b,0,none⟩)] 106)
 have hB1:(w.alloc (.cells #[.pointer (some ⟨b,0,none⟩)] 106)).cell? ⟨w.heap.size,0,none⟩=some (.pointer (some ⟨b,0,none⟩)):=by
  rw [(RowAt.new w #[.pointer (some ⟨b,0,none⟩)] 106).cell];rfl
 have hG1:w.grownBy (w.alloc (.cells #[.pointer (some ⟨b,0,none⟩)] 106)) (some b):=A.below_step (World.grownBy.refl w _) bA
 have hbl:=hM.lt
 obtain⟨Bx,hBe⟩:∃Bx,w.heap.size=Bx:=⟨_,rfl⟩
 have hBb:Bx≠b:=by omega
 clear hc hgo
 go_enter func53,ntmps53
 go_upto_region 1 with fail
 obtain⟨W1,hW1⟩:∃W1,w.alloc (.cells #[.pointer (some ⟨b,0,none⟩)] 106)=W1:=⟨_,rfl⟩
 try rw [hBe]at hB1
 try rw [hBe]
 rw [hW1]at hM1 hB1 hG1⊢
 clear hM hW1 hbl
 have h0:W1.cell? ⟨b,0,none⟩=some (.int .u8 (q 0)):=hM1.atq 0 (by decide) .u8 rfl
 have h179:W1.cell? ⟨b,179,none⟩=some (.int .u8 0):=hM1.atm 3 _ rfl
 have h180:W1.cell? ⟨b,180,none⟩=some (.bool true):=hM1.atm 4 _ rfl
 have hrc:=hM1.rc
 have hrm:W1.rangeAt b 176 [.int .i8 (F:Int),.int .i8 (G:Int),.int .u8 p,.int .u8 0,.bool true]:=hM1.rm
 have hbl:=hM1.lt
 have hbB:=World.block_lt_of_cell? W1 _ hB1
 go_wp2_with fail
 refine rB ?_
 repeat(first
  |(go_big_quiet_want;refine zm 31 _ rfl hp31 rfl ⟨b,88,posL c,rfl,hrc,A.posL_info _,?_⟩;simp only [Act.put,sA,sB,sC];go_big_quiet_on)
  |(go_big_quiet_want;refine zm 47 _ rfl hmi rfl ⟨b,176,_,rfl,hrm,A.cell_info ((F:Int),(G:Int),p,0,true),?_⟩;simp only [Act.put,sA,sB,sC];go_big_quiet_on)
  |go_big_quiet_step (first
   |(go_at_call 124;exact zd (HGo _))))
 refine wpQuiet_nil ?_
 intro w3 hb3
 have hM3:=hM1.below hb3
 have hB3:=(hb3.cell (p:=⟨Bx,0,none⟩) hbB).trans hB1
 have hG3:=A.below_step hG1 hb3
 have c177:w3.cell? ⟨b,177,none⟩=some (.int .i8 (G:Int)):=hM3.atm 1 _ rfl
 clear hM1 hB1 hG1 hb3 h0 h179 h180 hrc hrm hbl hbB
 go_upto_region 6 with(go_at_call 127;refine(zR c q _ t b Bx G w3 hM3 hB3 HC hG64).mono ?_;rw [hm];rintro e w4 ⟨rfl,rfl⟩)
 go_wp2
 first|refine bodyPost_end (results_none rfl _ _ _) rfl ?_|refine bodyPost_ret (results_none rfl _ _ _) rfl ?_
 exact⟨rfl,⟨by rw [E.out];exact hM3,hG3⟩⟩
theorem zfm(q c:Nat→Int)(F G:Nat)(p:Int)(t:Int)(b:Nat)(w:World)(hM:A.MvAt w b q c ((F:Int),(G:Int),p,0,true) t)(hF64:F<64)(hG64:G<64)(hc:PosOk c)(hq:PosOk q)(d1:(q 0 !=2)=false)(kg rg:Nat)(hgo:T.goalsV c (T.side c F G true)= .tuple #[.int .i64 (kg:Int),.int .i64 (rg:Int),.bool true])(hrg64:rg<64)(hrA:A.rg c ((F:Int),(G:Int),p,0,true)=rg)(hm:A.mark c (G:Int)=true):
  cR 53 #[.pointer (some ⟨b,0,none⟩)] w (.tuple #[]) fun w'=>A.Step b (A.pocket c q ((F:Int),(G:Int),p,0,true) t) c ((F:Int),(G:Int),p,0,true) t w w':=by
 have E:=hid (show A.pocket c q ((F:Int),(G:Int),p,0,true) t=(upd (upd q 65 (U (bAndn (A.bs (q 65)) (B.one (G:Int))))) 65 (U (bOr (bAndn (A.bs (q 65)) (B.one (G:Int))) (B.one (rg:Int))))) by
  unfold A.pocket
  rw [if_neg (fun h=>h.elim (fun h=>h (by simpa using d1)) (fun h=>h rfl)),if_pos rfl,if_pos hm,hrA];exact A.re_mark q _ _)
 have HGo:Hid (∀W,cB 124 #[.agg (posC c),.agg #[.int .i8 (F:Int),.int .i8 (G:Int),.int .u8 p,.int .u8 0,.bool true]] W (.tuple #[.int .i64 (kg:Int),.int .i64 (rg:Int),.bool true])):=hid (fun W=>by
  have:=zbU c (F:Int) (G:Int) p 0 true W hc om om
  rwa [hgo]at this)
 have hmi:=underlying47
 have hp31:=underlying31
 have HC:=hid hc
 have hqk:=hid hq
 have hw64:IntKind.i64.wrap (G:Int)=(G:Int):=by rw [IntKind.wrap_i64];omega
 have hw64':wrap64 (G:Int)=(G:Int):=by simp only [wrap64];omega
 have hM1:=hM.alloc (.cells #[.pointer (some ⟨b,0,none⟩)] 106)
 have hB1:(w.alloc (.cells #[.pointer (some ⟨b,0,none⟩)] 106)).cell? ⟨w.heap.size,0,none⟩=some (.pointer (some ⟨b,0,none⟩)):=by
  rw [(RowAt.new w #[.pointer (some ⟨b,0,none⟩)] 106).cell];rfl
 have hG1:w.grownBy (w.alloc (.cells #[.pointer (some ⟨b,0,none⟩)] 106)) (some b):=A.below_step (World.grownBy.refl w _) bA
 have hbl:=hM.lt
 obtain⟨Bx,hBe⟩:∃Bx,w.heap.size=Bx:=⟨_,rfl⟩
 have hBb:Bx≠b:=by omega
 clear hc hgo hq hrA
 go_enter func53,ntmps53
 go_upto_region 1 with fail
 obtain⟨W1,hW1⟩:∃W1,w.alloc (.cells #[.pointer (some ⟨b,0,none⟩)] 106)=W1:=⟨_,rfl⟩
 try rw [hBe]at hB1
 try rw [hBe]
 rw [hW1]at hM1 hB1 hG1⊢
 clear hM hW1 hbl
 have h0:W1.cell? ⟨b,0,none⟩=some (.int .u8 (q 0)):=hM1.atq 0 (by decide) .u8 rfl
 have h179:W1.cell? ⟨b,179,none⟩=some (.int .u8 0):=hM1.atm 3 _ rfl
 have h180:W1.cell? ⟨b,180,none⟩=some (.bool true):=hM1.atm 4 _ rfl
 have hrc:=hM1.rc
 have hrm:W1.rangeAt b 176 [.int .i8 (F:Int),.int .i8 (G:Int),.int .u8 p,.int .u8 0,.bool true]:=hM1.rm
 have hbl:=hM1.lt
 have hbB:=World.block_lt_of_cell? W1 _ hB1
 go_wp2_with fail
 refine rB ?_
 repeat(first
  |(go_big_quiet_want;refine zm 31 _ rfl hp31 rfl ⟨b,88,posL c,rfl,hrc,A.posL_info _,?_⟩;simp only [Act.put,sA,sB,sC];go_big_quiet_on)
  |(go_big_quiet_want;refine zm 47 _ rfl hmi rfl ⟨b,176,_,rfl,hrm,A.cell_info ((F:Int),(G:Int),p,0,true),?_⟩;simp only [Act.put,sA,sB,sC];go_big_quiet_on)
  |go_big_quiet_step (first
   |(go_at_call 124;exact zd (HGo _))))
 refine wpQuiet_nil ?_
 intro w3 hb3
 have hM3:=hM1.below hb3
 have hB3:=(hb3.cell (p:=⟨Bx,0,none⟩) hbB).trans hB1
 have hG3:=A.below_step hG1 hb3
 have c177:w3.cell? ⟨b,177,none⟩=some (.int .i8 (G:Int)):=hM3.atm 1 _ rfl
 clear hM1 hB1 hG1 hb3 h0 h179 h180 hrc hrm hbl hbB
 go_upto_region 6 with(go_at_call 127;refine(zR c q _ t b Bx G w3 hM3 hB3 HC hG64).mono ?_;rw [hm];rintro e w4 ⟨rfl,rfl⟩)
 have c65:w3.cell? ⟨b,65,none⟩=some (.int .u64 (U (A.bs (q 65)))):=by rw [A.c65 hqk.out];exact hM3.atq 65 (by decide) .u64 rfl
 have c177:w3.cell? ⟨b,177,none⟩=some (.int .i8 (G:Int)):=hM3.atm 1 _ rfl
 have hbl:=hM3.lt
 have hbB:=World.block_lt_of_cell? w3 _ hB3
 have e1:=A.one_at G hG64
 have hwu:IntKind.u64.wrap (G:Int)=(G:Int):=by rw [IntKind.wrap_u64];omega
 refine zl (n:=16) kr kr ?_
 simp only [List.take_succ_cons,List.take_zero,List.drop_succ_cons,List.drop_zero]
 repeat(quiet_step (fail))
 refine wpQuiet_nil ?_
 intro w5 hb5
 have hM5:=hM3.below hb5
 have hB5:=(hb5.cell (p:=⟨Bx,0,none⟩) hbB).trans hB3
 have hG5:=A.below_step hG3 hb5
 clear c65 c177 hbl hbB e1 hM3 hB3 hG3 hb5
 go_upto_region 7 with((with_reducible refine zg rfl _ _ _ rfl ?_);refine⟨b,65,q,c,_,t,_,.u64,rfl,rfl,by decide,rfl,A.size_u64A,hM5,?_⟩;intro W6 hP6 hM6)
 have hB6:W6.cell? ⟨Bx,0,none⟩=some (.pointer (some ⟨b,0,none⟩)):=(hP6.cell (p:=⟨Bx,0,none⟩) hBb).trans hB5
 have hG6:=A.put_grown hG5 hP6
 have c65:W6.cell? ⟨b,65,none⟩=some (.int .u64 (U (bAndn (A.bs (q 65)) (B.one (G:Int))))):=hM6.atq 65 (by decide) .u64 rfl
 have e2:=A.one_at rg hrg64
 have hwr:IntKind.u64.wrap (rg:Int)=(rg:Int):=by rw [IntKind.wrap_u64];omega
 clear hM5 hB5 hG5 hP6
 go_wp2_with ((with_reducible refine zg rfl _ _ _ rfl ?_);refine⟨b,65,_,c,_,t,(U (bOr (bAndn (A.bs (q 65)) (B.one (G:Int))) (B.one (rg:Int)))),.u64,rfl,rfl,by decide,rfl,A.size_u64A,hM6,?_⟩;intro W7 hP7 hM7)
 first|refine bodyPost_end (results_none rfl _ _ _) rfl ?_|refine bodyPost_ret (results_none rfl _ _ _) rfl ?_
 exact⟨rfl,⟨by rw [E.out];exact hM7,A.put_grown hG6 hP7⟩⟩
theorem A.turn_same(q:Nat→Int)(h:¬(q 0=5∧q (84+(q 78).toNat)<3∧K.check (A.turn0 q) (1-q 78)=true)):A.turn q=upd q 78 (1-q 78):=by
 unfold A.turn;rw [if_neg h];rfl
theorem A.turn_more(q:Nat→Int)(h:q 0=5∧q (84+(q 78).toNat)<3∧K.check (A.turn0 q) (1-q 78)=true):A.turn q=upd (upd q 78 (1-q 78)) (84+(q 78).toNat) (q (84+(q 78).toNat)+1):=by
 unfold A.turn;rw [if_pos h];rfl
theorem zhy(q c:Nat→Int)(m:Mv)(t:Int)(b:Nat)(w0 w:World)(hM:A.MvAt w b q c m t)(hC:A.Ctx w0 w b)(hq:PosOk q)(h78:q 78=0)(dv:(q 0==5)=false):
  cR 58 #[.pointer (some ⟨b,0,none⟩)] w (.tuple #[]) fun w'=>A.Step b (A.turn q) c m t w w':=by
 have B84:=hid (zp hq (i:=84) (by decide) rfl)
 have E:=hid (show A.turn q=(upd q 78 1) by rw [A.turn_same q (fun h=>by rw [h.1]at dv;cases dv),h78];rfl)
 have c78:w.cell? ⟨b,78,none⟩=some (.int .u8 0):=by rw [←h78];exact hM.atq 78 (by decide) .u8 rfl
 have CT:=hid hC
 have hp31:=underlying31
 have hw1:IntKind.u8.wrap (1-0)=1:=by decide
 have G0:=hid (World.grownBy.refl w (some b))
 clear hq hC h78
 go_enter func58,ntmps58
 go_upto_region 1 with(first
  |((with_reducible refine zg rfl _ _ _ rfl ?_);refine⟨b,78,q,c,_,t,1,.u8,rfl,rfl,by decide,rfl,size_u8A,hM,?_⟩;intro W1 hP1 hM1))
 have G1:=hid (A.put_grown G0 hP1)
 have CT1:=hid (CT.put hP1)
 have d78:W1.cell? ⟨b,78,none⟩=some (.int .u8 1):=hM1.atq 78 (by decide) .u8 rfl
 have h0:W1.cell? ⟨b,0,none⟩=some (.int .u8 (q 0)):=hM1.atq 0 (by decide) .u8 rfl
 have h84:W1.cell? ⟨b,84,none⟩=some (.int .u8 (q 84)):=hM1.atq 84 (by decide) .u8 rfl
 have hrg:=hM1.rq
 have hTW:=CT1.tb'
 have hbl:=hM1.lt
 clear c78 hM hP1 G0
 go_wp2_with fail
 refine rB ?_
 repeat(first
  |(go_big_quiet_want;refine zm 31 _ rfl hp31 rfl ⟨b,0,posL (upd q 78 1),rfl,hrg,A.posL_info _,?_⟩;simp only [Act.put,sA,sB,sC];go_big_quiet_on)
  |go_big_quiet_step (first
   |(go_at_call 62;exact zd (HK _ (zaH hTW)))))
 refine wpQuiet_nil ?_
 intro w3 hb3
 have G2:=hid (A.below_step G1 hb3)
 have hM2:=hM1.below hb3
 clear d78 h0 h84 hrg hTW hM1 hbl
 go_wp2
 refine bodyPost_end (results_none rfl _ _ _) rfl ?_
 exact⟨rfl,⟨by rw [E.out];exact hM2,G2⟩⟩
theorem zhU(q c:Nat→Int)(m:Mv)(t:Int)(b:Nat)(w0 w:World)(hM:A.MvAt w b q c m t)(hC:A.Ctx w0 w b)(hq:PosOk q)(h78:q 78=0)(dv:(q 0==5)=true)(dc:decide (q 84<3)=false):
  cR 58 #[.pointer (some ⟨b,0,none⟩)] w (.tuple #[]) fun w'=>A.Step b (A.turn q) c m t w w':=by
 have B84:=hid (zp hq (i:=84) (by decide) rfl)
 have E:=hid (show A.turn q=(upd q 78 1) by rw [A.turn_same q (fun h=>by have h2:=h.2.1;rw [h78]at h2;exact of_decide_eq_false dc h2),h78];rfl)
 have c78:w.cell? ⟨b,78,none⟩=some (.int .u8 0):=by rw [←h78];exact hM.atq 78 (by decide) .u8 rfl
 have CT:=hid hC
 have hp31:=underlying31
 have hw1:IntKind.u8.wrap (1-0)=1:=by decide
 have G0:=hid (World.grownBy.refl w (some b))
 clear hq hC h78
 go_enter func58,ntmps58
 go_upto_region 1 with(first
  |((with_reducible refine zg rfl _ _ _ rfl ?_);refine⟨b,78,q,c,_,t,1,.u8,rfl,rfl,by decide,rfl,size_u8A,hM,?_⟩;intro W1 hP1 hM1))
 have G1:=hid (A.put_grown G0 hP1)
 have CT1:=hid (CT.put hP1)
 have d78:W1.cell? ⟨b,78,none⟩=some (.int .u8 1):=hM1.atq 78 (by decide) .u8 rfl
 have h0:W1.cell? ⟨b,0,none⟩=some (.int .u8 (q 0)):=hM1.atq 0 (by decide) .u8 rfl
 have h84:W1.cell? ⟨b,84,none⟩=some (.int .u8 (q 84)):=hM1.atq 84 (by decide) .u8 rfl
 have hrg:=hM1.rq
 have hTW:=CT1.tb'
 have hbl:=hM1.lt
 clear c78 hM hP1 G0
 go_wp2_with fail
 refine rB ?_
 repeat(first
  |(go_big_quiet_want;refine zm 31 _ rfl hp31 rfl ⟨b,0,posL (upd q 78 1),rfl,hrg,A.posL_info _,?_⟩;simp only [Act.put,sA,sB,sC];go_big_quiet_on)
  |go_big_quiet_step (first
   |(go_at_call 62;exact zd (HK _ (zaH hTW)))))
 refine wpQuiet_nil ?_
 intro w3 hb3
 have G2:=hid (A.below_step G1 hb3)
 have hM2:=hM1.below hb3
 clear d78 h0 h84 hrg hTW hM1 hbl
 go_wp2
 refine bodyPost_end (results_none rfl _ _ _) rfl ?_
 exact⟨rfl,⟨by rw [E.out];exact hM2,G2⟩⟩
theorem zhj(q c:Nat→Int)(m:Mv)(t:Int)(b:Nat)(w0 w:World)(hM:A.MvAt w b q c m t)(hC:A.Ctx w0 w b)(hq:PosOk q)(h78:q 78=0)(dv:(q 0==5)=true)(dc:decide (q 84<3)=true)(dk:K.check (upd q 78 1) 1=false):
  cR 58 #[.pointer (some ⟨b,0,none⟩)] w (.tuple #[]) fun w'=>A.Step b (A.turn q) c m t w w':=by
 have B84:=hid (zp hq (i:=84) (by decide) rfl)
 have E:=hid (show A.turn q=(upd q 78 1) by rw [A.turn_same q (fun h=>by have h2:=h.2.2;unfold A.turn0 at h2;rw [h78]at h2;exact Bool.noConfusion (dk.symm.trans h2)),h78];rfl)
 have c78:w.cell? ⟨b,78,none⟩=some (.int .u8 0):=by rw [←h78];exact hM.atq 78 (by decide) .u8 rfl
 have HK:Hid (∀W,Tb W→cB 62 #[.agg (posC (upd q 78 1)),.int .u8 1] W (.bool false)):=hid (fun W hT=>by
  have hok:PosOk (upd q 78 1):=A.posOk_upd hq 78 _ (by decide)
  have:=zau (upd q 78 1) 1 W (zw hok) hT (zp hok (i:=0) (by decide) rfl).1 (by decide)
  rwa [dk]at this)
 have CT:=hid hC
 have hp31:=underlying31
 have hw1:IntKind.u8.wrap (1-0)=1:=by decide
 have G0:=hid (World.grownBy.refl w (some b))
 clear hq hC h78
 go_enter func58,ntmps58
 go_upto_region 1 with(first
  |((with_reducible refine zg rfl _ _ _ rfl ?_);refine⟨b,78,q,c,_,t,1,.u8,rfl,rfl,by decide,rfl,size_u8A,hM,?_⟩;intro W1 hP1 hM1))
 have G1:=hid (A.put_grown G0 hP1)
 have CT1:=hid (CT.put hP1)
 have d78:W1.cell? ⟨b,78,none⟩=some (.int .u8 1):=hM1.atq 78 (by decide) .u8 rfl
 have h0:W1.cell? ⟨b,0,none⟩=some (.int .u8 (q 0)):=hM1.atq 0 (by decide) .u8 rfl
 have h84:W1.cell? ⟨b,84,none⟩=some (.int .u8 (q 84)):=hM1.atq 84 (by decide) .u8 rfl
 have hrg:=hM1.rq
 have hTW:=CT1.tb'
 have hbl:=hM1.lt
 clear c78 hM hP1 G0
 go_wp2_with fail
 refine rB ?_
 repeat(first
  |(go_big_quiet_want;refine zm 31 _ rfl hp31 rfl ⟨b,0,posL (upd q 78 1),rfl,hrg,A.posL_info _,?_⟩;simp only [Act.put,sA,sB,sC];go_big_quiet_on)
  |go_big_quiet_step (first
   |(go_at_call 62;exact zd (HK _ (zaH hTW)))))
 refine wpQuiet_nil ?_
 intro w3 hb3
 have G2:=hid (A.below_step G1 hb3)
 have hM2:=hM1.below hb3
 clear d78 h0 h84 hrg hTW hM1 hbl
 go_wp2
 refine bodyPost_end (results_none rfl _ _ _) rfl ?_
 exact⟨rfl,⟨by rw [E.out];exact hM2,G2⟩⟩
theorem zhN(q c:Nat→Int)(m:Mv)(t:Int)(b:Nat)(w0 w:World)(hM:A.MvAt w b q c m t)(hC:A.Ctx w0 w b)(hq:PosOk q)(h78:q 78=0)(dv:(q 0==5)=true)(dc:decide (q 84<3)=true)(dk:K.check (upd q 78 1) 1=true):
  cR 58 #[.pointer (some ⟨b,0,none⟩)] w (.tuple #[]) fun w'=>A.Step b (A.turn q) c m t w w':=by
 have B84:=hid (zp hq (i:=84) (by decide) rfl)
 have E:=hid (show A.turn q=(upd (upd q 78 1) 84 (q 84+1)) by rw [A.turn_more q ⟨by simpa using dv,by rw [h78];exact of_decide_eq_true dc,by unfold A.turn0;rw [h78];exact dk⟩,h78];rfl)
 have c78:w.cell? ⟨b,78,none⟩=some (.int .u8 0):=by rw [←h78];exact hM.atq 78 (by decide) .u8 rfl
 have HK:Hid (∀W,Tb W→cB 62 #[.agg (posC (upd q 78 1)),.int .u8 1] W (.bool true)):=hid (fun W hT=>by
  have hok:PosOk (upd q 78 1):=A.posOk_upd hq 78 _ (by decide)
  have:=zau (upd q 78 1) 1 W (zw hok) hT (zp hok (i:=0) (by decide) rfl).1 (by decide)
  rwa [dk]at this)
 have CT:=hid hC
 have hp31:=underlying31
 have hw1:IntKind.u8.wrap (1-0)=1:=by decide
 have G0:=hid (World.grownBy.refl w (some b))
 clear hq hC h78
 go_enter func58,ntmps58
 go_upto_region 1 with(first
  |((with_reducible refine zg rfl _ _ _ rfl ?_);refine⟨b,78,q,c,_,t,1,.u8,rfl,rfl,by decide,rfl,size_u8A,hM,?_⟩;intro W1 hP1 hM1))
 have G1:=hid (A.put_grown G0 hP1)
 have CT1:=hid (CT.put hP1)
 have d78:W1.cell? ⟨b,78,none⟩=some (.int .u8 1):=hM1.atq 78 (by decide) .u8 rfl
 have h0:W1.cell? ⟨b,0,none⟩=some (.int .u8 (q 0)):=hM1.atq 0 (by decide) .u8 rfl
 have h84:W1.cell? ⟨b,84,none⟩=some (.int .u8 (q 84)):=hM1.atq 84 (by decide) .u8 rfl
 have hrg:=hM1.rq
 have hTW:=CT1.tb'
 have hbl:=hM1.lt
 clear c78 hM hP1 G0
 go_wp2_with fail
 refine rB ?_
 repeat(first
  |(go_big_quiet_want;refine zm 31 _ rfl hp31 rfl ⟨b,0,posL (upd q 78 1),rfl,hrg,A.posL_info _,?_⟩;simp only [Act.put,sA,sB,sC];go_big_quiet_on)
  |go_big_quiet_step (first
   |(go_at_call 62;exact zd (HK _ (zaH hTW)))))
 refine wpQuiet_nil ?_
 intro w3 hb3
 have G2:=hid (A.below_step G1 hb3)
 have hM2:=hM1.below hb3
 clear d78 h0 h84 hrg hTW hM1 hbl
 have b84:=B84.out
 have hw:IntKind.u8.wrap (q 84+1)=q 84+1:=by rw [IntKind.wrap_u8];have:=of_decide_eq_true dc;omega
 have h84':w3.cell? ⟨b,84,none⟩=some (.int .u8 (q 84)):=hM2.atq 84 (by decide) .u8 rfl
 have hbl:=hM2.lt
 clear hb3 b84
 go_wp2_with fail
 refine zl (n:=12) kr kr ?_
 simp only [List.take_succ_cons,List.take_zero,List.drop_succ_cons,List.drop_zero]
 repeat(quiet_step (fail))
 refine wpQuiet_nil ?_
 intro w4 hb4
 have hM3:=hM2.below hb4
 have G3:=hid (A.below_step G2 hb4)
 clear h84' hM2 hb4 hbl
 go_wp2_with ((with_reducible refine zg rfl _ _ _ rfl ?_);refine⟨b,84,_,c,_,t,_,.u8,rfl,rfl,by decide,rfl,size_u8A,hM3,?_⟩;intro W5 hP5 hM5)
 refine bodyPost_end (results_none rfl _ _ _) rfl ?_
 exact⟨rfl,⟨by rw [E.out];exact hM5,A.put_grown G3 hP5⟩⟩
theorem zhK(q c:Nat→Int)(m:Mv)(t:Int)(b:Nat)(w0 w:World)(hM:A.MvAt w b q c m t)(hC:A.Ctx w0 w b)(hq:PosOk q)(h78:q 78=1)(dv:(q 0==5)=false):
  cR 58 #[.pointer (some ⟨b,0,none⟩)] w (.tuple #[]) fun w'=>A.Step b (A.turn q) c m t w w':=by
 have B84:=hid (zp hq (i:=85) (by decide) rfl)
 have E:=hid (show A.turn q=(upd q 78 0) by rw [A.turn_same q (fun h=>by rw [h.1]at dv;cases dv),h78];rfl)
 have c78:w.cell? ⟨b,78,none⟩=some (.int .u8 1):=by rw [←h78];exact hM.atq 78 (by decide) .u8 rfl
 have CT:=hid hC
 have hp31:=underlying31
 have hw1:IntKind.u8.wrap (1-1)=0:=by decide
 have G0:=hid (World.grownBy.refl w (some b))
 clear hq hC h78
 go_enter func58,ntmps58
 go_upto_region 1 with(first
  |((with_reducible refine zg rfl _ _ _ rfl ?_);refine⟨b,78,q,c,_,t,0,.u8,rfl,rfl,by decide,rfl,size_u8A,hM,?_⟩;intro W1 hP1 hM1))
 have G1:=hid (A.put_grown G0 hP1)
 have CT1:=hid (CT.put hP1)
 have d78:W1.cell? ⟨b,78,none⟩=some (.int .u8 0):=hM1.atq 78 (by decide) .u8 rfl
 have h0:W1.cell? ⟨b,0,none⟩=some (.int .u8 (q 0)):=hM1.atq 0 (by decide) .u8 rfl
 have h84:W1.cell? ⟨b,85,none⟩=some (.int .u8 (q 85)):=hM1.atq 85 (by decide) .u8 rfl
 have hrg:=hM1.rq
 have hTW:=CT1.tb'
 have hbl:=hM1.lt
 clear c78 hM hP1 G0
 go_wp2_with fail
 refine rB ?_
 repeat(first
  |(go_big_quiet_want;refine zm 31 _ rfl hp31 rfl ⟨b,0,posL (upd q 78 0),rfl,hrg,A.posL_info _,?_⟩;simp only [Act.put,sA,sB,sC];go_big_quiet_on)
  |go_big_quiet_step (first
   |(go_at_call 62;exact zd (HK _ (zaH hTW)))))
 refine wpQuiet_nil ?_
 intro w3 hb3
 have G2:=hid (A.below_step G1 hb3)
 have hM2:=hM1.below hb3
 clear d78 h0 h84 hrg hTW hM1 hbl
 go_wp2
 refine bodyPost_end (results_none rfl _ _ _) rfl ?_
 exact⟨rfl,⟨by rw [E.out];exact hM2,G2⟩⟩
theorem zhJ(q c:Nat→Int)(m:Mv)(t:Int)(b:Nat)(w0 w:World)(hM:A.MvAt w b q c m t)(hC:A.Ctx w0 w b)(hq:PosOk q)(h78:q 78=1)(dv:(q 0==5)=true)(dc:decide (q 85<3)=false):
  cR 58 #[.pointer (some ⟨b,0,none⟩)] w (.tuple #[]) fun w'=>A.Step b (A.turn q) c m t w w':=by
 have B84:=hid (zp hq (i:=85) (by decide) rfl)
 have E:=hid (show A.turn q=(upd q 78 0) by rw [A.turn_same q (fun h=>by have h2:=h.2.1;rw [h78]at h2;exact of_decide_eq_false dc h2),h78];rfl)
 have c78:w.cell? ⟨b,78,none⟩=some (.int .u8 1):=by rw [←h78];exact hM.atq 78 (by decide) .u8 rfl
 have CT:=hid hC
 have hp31:=underlying31
 have hw1:IntKind.u8.wrap (1-1)=0:=by decide
 have G0:=hid (World.grownBy.refl w (some b))
 clear hq hC h78
 go_enter func58,ntmps58
 go_upto_region 1 with(first
  |((with_reducible refine zg rfl _ _ _ rfl ?_);refine⟨b,78,q,c,_,t,0,.u8,rfl,rfl,by decide,rfl,size_u8A,hM,?_⟩;intro W1 hP1 hM1))
 have G1:=hid (A.put_grown G0 hP1)
 have CT1:=hid (CT.put hP1)
 have d78:W1.cell? ⟨b,78,none⟩=some (.int .u8 0):=hM1.atq 78 (by decide) .u8 rfl
 have h0:W1.cell? ⟨b,0,none⟩=some (.int .u8 (q 0)):=hM1.atq 0 (by decide) .u8 rfl
 have h84:W1.cell? ⟨b,85,none⟩=some (.int .u8 (q 85)):=hM1.atq 85 (by decide) .u8 rfl
 have hrg:=hM1.rq
 have hTW:=CT1.tb'
 have hbl:=hM1.lt
 clear c78 hM hP1 G0
 go_wp2_with fail
 refine rB ?_
 repeat(first
  |(go_big_quiet_want;refine zm 31 _ rfl hp31 rfl ⟨b,0,posL (upd q 78 0),rfl,hrg,A.posL_info _,?_⟩;simp only [Act.put,sA,sB,sC];go_big_quiet_on)
  |go_big_quiet_step (first
   |(go_at_call 62;exact zd (HK _ (zaH hTW)))))
 refine wpQuiet_nil ?_
 intro w3 hb3
 have G2:=hid (A.below_step G1 hb3)
 have hM2:=hM1.below hb3
 clear d78 h0 h84 hrg hTW hM1 hbl
 go_wp2
 refine bodyPost_end (results_none rfl _ _ _) rfl ?_
 exact⟨rfl,⟨by rw [E.out];exact hM2,G2⟩⟩
theorem zh0(q c:Nat→Int)(m:Mv)(t:Int)(b:Nat)(w0 w:World)(hM:A.MvAt w b q c m t)(hC:A.Ctx w0 w b)(hq:PosOk q)(h78:q 78=1)(dv:(q 0==5)=true)(dc:decide (q 85<3)=true)(dk:K.check (upd q 78 0) 0=false):
  cR 58 #[.pointer (some ⟨b,0,none⟩)] w (.tuple #[]) fun w'=>A.Step b (A.turn q) c m t w w':=by
 have B84:=hid (zp hq (i:=85) (by decide) rfl)
 have E:=hid (show A.turn q=(upd q 78 0) by rw [A.turn_same q (fun h=>by have h2:=h.2.2;unfold A.turn0 at h2;rw [h78]at h2;exact Bool.noConfusion (dk.symm.trans h2)),h78];rfl)
 have c78:w.cell? ⟨b,78,none⟩=some (.int .u8 1):=by rw [←h78];exact hM.atq 78 (by decide) .u8 rfl
 have HK:Hid (∀W,Tb W→cB 62 #[.agg (posC (upd q 78 0)),.int .u8 0] W (.bool false)):=hid (fun W hT=>by
  have hok:PosOk (upd q 78 0):=A.posOk_upd hq 78 _ (by decide)
  have:=zau (upd q 78 0) 0 W (zw hok) hT (zp hok (i:=0) (by decide) rfl).1 (by decide)
  rwa [dk]at this)
 have CT:=hid hC
 have hp31:=underlying31
 have hw1:IntKind.u8.wrap (1-1)=0:=by decide
 have G0:=hid (World.grownBy.refl w (some b))
 clear hq hC h78
 go_enter func58,ntmps58
 go_upto_region 1 with(first
  |((with_reducible refine zg rfl _ _ _ rfl ?_);refine⟨b,78,q,c,_,t,0,.u8,rfl,rfl,by decide,rfl,size_u8A,hM,?_⟩;intro W1 hP1 hM1))
 have G1:=hid (A.put_grown G0 hP1)
 have CT1:=hid (CT.put hP1)
 have d78:W1.cell? ⟨b,78,none⟩=some (.int .u8 0):=hM1.atq 78 (by decide) .u8 rfl
 have h0:W1.cell? ⟨b,0,none⟩=some (.int .u8 (q 0)):=hM1.atq 0 (by decide) .u8 rfl
 have h84:W1.cell? ⟨b,85,none⟩=some (.int .u8 (q 85)):=hM1.atq 85 (by decide) .u8 rfl
 have hrg:=hM1.rq
 have hTW:=CT1.tb'
 have hbl:=hM1.lt
 clear c78 hM hP1 G0
 go_wp2_with fail
 refine rB ?_
 repeat(first
  |(go_big_quiet_want;refine zm 31 _ rfl hp31 rfl ⟨b,0,posL (upd q 78 0),rfl,hrg,A.posL_info _,?_⟩;simp only [Act.put,sA,sB,sC];go_big_quiet_on)
  |go_big_quiet_step (first
   |(go_at_call 62;exact zd (HK _ (zaH hTW)))))
 refine wpQuiet_nil ?_
 intro w3 hb3
 have G2:=hid (A.below_step G1 hb3)
 have hM2:=hM1.below hb3
 clear d78 h0 h84 hrg hTW hM1 hbl
 go_wp2
 refine bodyPost_end (results_none rfl _ _ _) rfl ?_
 exact⟨rfl,⟨by rw [E.out];exact hM2,G2⟩⟩
theorem zhF(q c:Nat→Int)(m:Mv)(t:Int)(b:Nat)(w0 w:World)(hM:A.MvAt w b q c m t)(hC:A.Ctx w0 w b)(hq:PosOk q)(h78:q 78=1)(dv:(q 0==5)=true)(dc:decide (q 85<3)=true)(dk:K.check (upd q 78 0) 0=true):
  cR 58 #[.pointer (some ⟨b,0,none⟩)] w (.tuple #[]) fun w'=>A.Step b (A.turn q) c m t w w':=by
 have B84:=hid (zp hq (i:=85) (by decide) rfl)
 have E:=hid (show A.turn q=(upd (upd q 78 0) 85 (q 85+1)) by rw [A.turn_more q ⟨by simpa using dv,by rw [h78];exact of_decide_eq_true dc,by unfold A.turn0;rw [h78];exact dk⟩,h78];rfl)
 have c78:w.cell? ⟨b,78,none⟩=some (.int .u8 1):=by rw [←h78];exact hM.atq 78 (by decide) .u8 rfl
 have HK:Hid (∀W,Tb W→cB 62 #[.agg (posC (upd q 78 0)),.int .u8 0] W (.bool true)):=hid (fun W hT=>by
  have hok:PosOk (upd q 78 0):=A.posOk_upd hq 78 _ (by decide)
  have:=zau (upd q 78 0) 0 W (zw hok) hT (zp hok (i:=0) (by decide) rfl).1 (by decide)
  rwa [dk]at this)
 have CT:=hid hC
 have hp31:=underlying31
 have hw1:IntKind.u8.wrap (1-1)=0:=by decide
 have G0:=hid (World.grownBy.refl w (some b))
 clear hq hC h78
 go_enter func58,ntmps58
 go_upto_region 1 with(first
  |((with_reducible refine zg rfl _ _ _ rfl ?_);refine⟨b,78,q,c,_,t,0,.u8,rfl,rfl,by decide,rfl,size_u8A,hM,?_⟩;intro W1 hP1 hM1))
 have G1:=hid (A.put_grown G0 hP1)
 have CT1:=hid (CT.put hP1)
 have d78:W1.cell? ⟨b,78,none⟩=some (.int .u8 0):=hM1.atq 78 (by decide) .u8 rfl
 have h0:W1.cell? ⟨b,0,none⟩=some (.int .u8 (q 0)):=hM1.atq 0 (by decide) .u8 rfl
 have h84:W1.cell? ⟨b,85,none⟩=some (.int .u8 (q 85)):=hM1.atq 85 (by decide) .u8 rfl
 have hrg:=hM1.rq
 have hTW:=CT1.tb'
 have hbl:=hM1.lt
 clear c78 hM hP1 G0
 go_wp2_with fail
 refine rB ?_
 repeat(first
  |(go_big_quiet_want;refine zm 31 _ rfl hp31 rfl ⟨b,0,posL (upd q 78 0),rfl,hrg,A.posL_info _,?_⟩;simp only [Act.put,sA,sB,sC];go_big_quiet_on)
  |go_big_quiet_step (first
   |(go_at_call 62;exact zd (HK _ (zaH hTW)))))
 refine wpQuiet_nil ?_
 intro w3 hb3
 have G2:=hid (A.below_step G1 hb3)
 have hM2:=hM1.below hb3
 clear d78 h0 h84 hrg hTW hM1 hbl
 have b84:=B84.out
 have hw:IntKind.u8.wrap (q 85+1)=q 85+1:=by rw [IntKind.wrap_u8];have:=of_decide_eq_true dc;omega
 have h84':w3.cell? ⟨b,85,none⟩=some (.int .u8 (q 85)):=hM2.atq 85 (by decide) .u8 rfl
 have hbl:=hM2.lt
 clear hb3 b84
 go_wp2_with fail
 refine zl (n:=12) kr kr ?_
 simp only [List.take_succ_cons,List.take_zero,List.drop_succ_cons,List.drop_zero]
 repeat(quiet_step (fail))
 refine wpQuiet_nil ?_
 intro w4 hb4
 have hM3:=hM2.below hb4
 have G3:=hid (A.below_step G2 hb4)
 clear h84' hM2 hb4 hbl
 go_wp2_with ((with_reducible refine zg rfl _ _ _ rfl ?_);refine⟨b,85,_,c,_,t,_,.u8,rfl,rfl,by decide,rfl,size_u8A,hM3,?_⟩;intro W5 hP5 hM5)
 refine bodyPost_end (results_none rfl _ _ _) rfl ?_
 exact⟨rfl,⟨by rw [E.out];exact hM5,A.put_grown G3 hP5⟩⟩
theorem zgG(q c:Nat→Int)(m:Mv)(t:Int)(b:Nat)(w0 w:World)(hM:A.MvAt w b q c m t)(hC:A.Ctx w0 w b)(hq:PosOk q)(h78:q 78≤1):
  cR 58 #[.pointer (some ⟨b,0,none⟩)] w (.tuple #[]) fun w'=>A.Step b (A.turn q) c m t w w':=by
 obtain⟨l,_⟩:=zp hq (i:=78) (by decide) rfl
 rcases(show q 78=0∨q 78=1 by omega)with h|h
 ·cases dv:(q 0==5)
  ·exact zhy q c m t b w0 w hM hC hq h dv
  ·cases dc:decide (q 84<3)
   ·exact zhU q c m t b w0 w hM hC hq h dv dc
   ·cases dk:K.check (upd q 78 1) 1
    ·exact zhj q c m t b w0 w hM hC hq h dv dc dk
    ·exact zhN q c m t b w0 w hM hC hq h dv dc dk
 ·cases dv:(q 0==5)
  ·exact zhK q c m t b w0 w hM hC hq h dv
  ·cases dc:decide (q 85<3)
   ·exact zhJ q c m t b w0 w hM hC hq h dv dc
   ·cases dk:K.check (upd q 78 0) 0
    ·exact zh0 q c m t b w0 w hM hC hq h dv dc dk
    ·exact zhF q c m t b w0 w hM hC hq h dv dc dk
end
end Go.Proofs.YtbakeajgolhkgaaGreatDoor
