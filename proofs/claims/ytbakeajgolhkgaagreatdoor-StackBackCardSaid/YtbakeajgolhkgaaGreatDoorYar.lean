import Derived.Deep.RegionWith
import Derived.Test.YtbakeajgolhkgaaGreatDoorYao
import Derived.Test.YtbakeajgolhkgaaGreatDoorYaq
set_option maxRecDepth 100000
set_option maxHeartbeats 8000000
open Go.Lib (hid)
namespace Go.Proofs.YtbakeajgolhkgaaGreatDoor
open Go.Proofs.Tryz
section
open Go.RowKit Go.Sort
namespace H
def fa(k:Nat):BitVec 64:=if k=0 then 0xBF58476D1CE4E5B9#64 else if k=1 then 0x94D049BB133111EB#64 else 1#64
def sh(k:Nat):Nat:=if k=0 then 30 else if k=1 then 27 else 31
def mul(x y:BitVec 64):BitVec 64:=x*y
def mix(k:Nat)(x:BitVec 64):BitVec 64:=mul (bXor x (bShr x (sh k))) (fa k)
def mixes:Nat→BitVec 64→BitVec 64
 |0,x=>x
 |k+1,x=>mix k (mixes k x)
def seed(s n:Int):BitVec 64:=BitVec.ofInt 64 (4096*s+n+11400714819323198485)
def part(s n:Int):BitVec 64:=mixes 3 (seed s n)
def partIf(b:Bool)(s n:Int):BitVec 64:=if b=true then part s n else 0#64
theorem mul_u(x y:BitVec 64):IntKind.u64.wrap (U x*U y)=U (mul x y):=by
 unfold U mul
 rw [IntKind.wrap_u64,BitVec.toNat_mul,←Int.natCast_mul]
 exact(Int.natCast_emod _ 18446744073709551616).symm
theorem seed_u(s n:Int):IntKind.u64.wrap (IntKind.u64.wrap (IntKind.u64.wrap (4096*IntKind.u64.wrap s)+IntKind.u64.wrap n)+11400714819323198485)=U (seed s n):=by
 unfold U seed
 rw [BitVec.toNat_ofInt]
 simp only [IntKind.wrap_u64]
 omega
def stepsV:Value:= .agg #[.int .i64 30,.int .u64 13787848793156543929,.int .i64 27,.int .u64 10723151780598845931,.int .i64 31,.int .u64 1]
theorem idx(k:Nat)(hk:k<3)(w:World):(Instr.index 247 stepsV (.int .i64 (k:Int))).run prog w= .ok (.agg #[.int .i64 (sh k:Int),.int .u64 (U (fa k))]) w:=by
 rcases(show k=0∨k=1∨k=2 by omega)with rfl|rfl|rfl<;>kernel_rfl
theorem size_steps:(prog.info? 247).map (·.size)=some 6:=by kernel_rfl
end H
theorem ze2(w:World):cB 208 #[] w H.stepsV:=by
 have hb:=fun o=>((Below.refl w.heap.size w).alloc (Nat.le_refl _) o)
 go_enter func208,ntmps208
 go_wp2
 exact bodyPost_ret (v:=H.stepsV) (results_cell_row results208 _ _ w.heap.size 247 _ (0,0) _ rfl (heap_alloc_new _ _) underlying247 rfl H.size_steps) rfl ⟨rfl,hb _⟩
theorem zdd(s n:Int)(w:World):cB 138 #[.int .i64 s,.int .i64 n] w (.int .u64 (U (H.part s n))):=by
 have hs:=H.seed_u s n
 obtain⟨x0,hx0⟩:∃x0,H.seed s n=x0:=⟨_,rfl⟩
 have HE:=hid (show H.part s n=H.mixes 3 x0 by unfold H.part;rw [hx0])
 rw [hx0]at hs
 clear hx0
 go_enter func138,ntmps138
 go_upto_region 2 with fail
 clear hs
 go_upto_region 3 with(go_at_call 208;refine(ze2 _).mono ?_;rintro e w1 ⟨rfl,hb1⟩)
 go_loopw [5,16] (fun v i wr=>∃k:Nat,k≤3∧i= .int .i64 (k:Int)∧v= .int .u64 (U (H.mixes k x0))∧Below w.heap.size w wr) (fun _ i _=>3-(intOf i).toNat)
 case atStart=>exact⟨0,Nat.zero_le _,rfl,rfl,hb1⟩
 case round=>
  obtain⟨k,hk,rfl,rfl,hbr⟩:=hrel
  by_cases hlt:k<3
  ·have hix:=fun w=>H.idx k hlt w
   have hm:=H.mul_u (bXor (H.mixes k x0) (bShr (H.mixes k x0) (H.sh k))) (H.fa k)
   have HN:=hid (show H.mul (bXor (H.mixes k x0) (bShr (H.mixes k x0) (H.sh k))) (H.fa k)=H.mixes (k+1) x0 from rfl)
   have hr:=RowAt.new wr #[.int .i64 (H.sh k:Int),.int .u64 (U (H.fa k))] 246
   have hbn:=hbr.alloc hbr.size (.cells #[.int .i64 (H.sh k:Int),.int .u64 (U (H.fa k))] 246)
   have c0:=hr.cell 0
   have c1:=hr.cell 1
   have hsz:=Int.natCast_nonneg (H.sh k)
   have htn:=Int.toNat_natCast (H.sh k)
   clear hr
   go_upto_region 5 with fail
   obtain⟨w2,hw2⟩:∃w2,wr.alloc (.cells #[.int .i64 (H.sh k:Int),.int .u64 (U (H.fa k))] 246)=w2:=⟨_,rfl⟩
   rw [hw2]at c0 c1 hbn⊢
   go_quiet (fail)
   go_wp2
   exact⟨⟨k+1,by omega,by go_num,by rw [HN.out],below_drewN hbn _⟩,by simp [intOf];omega⟩
  ·obtain rfl:k=3:=by omega
   go_wp2
   go_ret
   exact⟨HE.out▸rfl,hbr⟩
theorem zX(b:Bool)(s n:Int)(w:World):cB 187 #[.bool b,.int .i64 s,.int .i64 n] w (.int .u64 (U (H.partIf b s n))):=by
 cases b
 ·go_enter func187,ntmps187
  go_wp2
  go_ret
  exact⟨rfl,Below.refl _ _⟩
 ·go_enter func187,ntmps187
  go_wp2_with (go_at_call 138;refine(zdd _ _ _).mono ?_;rintro e w1 ⟨rfl,hb1⟩)
  go_ret
  exact⟨rfl,hb1⟩
namespace H
def within(n m:Int):Bool:=decide (0≤n)&&decide (n<m)
end H
theorem zbf(n m:Int)(w:World):cR 189 #[.int .i64 n,.int .i64 m] w (.bool (H.within n m)) fun w'=>w=w':=by
 by_cases h:0≤n
 ·have hd:decide (0≤n)=true:=decide_eq_true h
  have H:=hid (show H.within n m=decide (n<m) by unfold H.within;rw [hd];rfl)
  go_enter func189,ntmps189
  go_wp2
  go_ret
  exact⟨zy (by rw [H.out]),rfl⟩
 ·have hd:decide (0≤n)=false:=decide_eq_false h
  have H:=hid (show H.within n m=false by unfold H.within;rw [hd];rfl)
  go_enter func189,ntmps189
  go_wp2
  go_ret
  exact⟨zy (by rw [H.out]),rfl⟩
namespace H
def piece(x s:Int):BitVec 64:=partIf (P.isB x) 1 (64*x+s)
def turn(t:Int):BitVec 64:=partIf (t==1) 2 0
def passing(s:Int):BitVec 64:=partIf (within s 64) 3 s
def rook(c d f:Int):BitVec 64:=partIf (within f 8) 4 (16*(2*c+d)+f)
def pocket(c k n:Int):BitVec 64:=partIf (decide (1≤k)&&(decide (k≤5)&&decide (0<n))) 5 (256*(6*c+k)+n)
def checks(c n:Int):BitVec 64:=partIf (decide (0<n)) 6 (256*c+n)
end H
theorem H.w(x:Int)(h1: -9223372036854775808≤x∧x≤9223372036854775807):wrap64 x=x:=IntWalk.wrap64_in _ h1
theorem zbS(x s:Int)(w:World)(h0:0≤x)(h1:x≤255)(hs:0≤s∧s<64):cB 103 #[.int .u8 x,.int .i64 s] w (.int .u64 (U (H.piece x s))):=by
 have HX:=hid (show wrap64 (wrap64 (64*wrap64 x)+s)=64*x+s by rw [H.w x om,H.w (64*x) om,H.w _ om])
 have w0:=hid (fun(b:Bool) (W:World) (h:P.isB x=b)=>is_eq x b W h0 h1 h)
 have hw:H.within s 64=true:=by unfold H.within;simp;omega
 have HW:=hid (fun W=>hw▸zbf s 64 W)
 clear hw h0 h1 hs
 cases hb:P.isB x
 all_goals
  have HE:=hid (show H.piece x s=H.partIf _ 1 (64*x+s)from congrArg (fun b=>H.partIf b 1 (64*x+s)) hb)
  have HB:=hid hb
  clear hb
  go_enter func103,ntmps103
  go_wp2_with (first
   |(go_at_call 188;refine(w0.out _ _ HB).mono ?_;rintro e w3 ⟨rfl,rfl⟩)
   |(go_at_call 189;refine(HW _).mono ?_;rintro e w3 ⟨rfl,rfl⟩)
   |(go_at_call 187;refine(zX _ _ _ _).mono ?_;rintro e w3 ⟨rfl,hb3⟩))
  go_ret
  exact⟨ret_int (by rw [HE.out,HX.out]),hb3⟩
theorem zcm(t:Int)(w:World):cB 107 #[.int .u8 t] w (.int .u64 (U (H.turn t))):=by
 go_enter func107,ntmps107
 go_wp2_with (go_at_call 187;refine(zX _ _ _ _).mono ?_;rintro e w3 ⟨rfl,hb3⟩)
 go_ret
 exact⟨rfl,hb3⟩
theorem zaZ(s:Int)(w:World):cB 108 #[.int .i64 s] w (.int .u64 (U (H.passing s))):=by
 go_enter func108,ntmps108
 go_wp2_with (first
  |(go_at_call 189;refine(zbf _ _ _).mono ?_;rintro e w3 ⟨rfl,rfl⟩)
  |(go_at_call 187;refine(zX _ _ _ _).mono ?_;rintro e w3 ⟨rfl,hb3⟩))
 go_ret
 exact⟨rfl,hb3⟩
theorem zcc(c d f:Int)(w:World)(hc:0≤c∧c≤1)(hd:0≤d∧d≤1)(hf: -128≤f∧f≤127):cB 104 #[.int .u8 c,.int .i64 d,.int .i64 f] w (.int .u64 (U (H.rook c d f))):=by
 have HX:=hid (show wrap64 (wrap64 (16*wrap64 (wrap64 (2*wrap64 c)+d))+f)=16*(2*c+d)+f by rw [H.w c om,H.w (2*c) om,H.w (2*c+d) om,H.w (16*(2*c+d)) om,H.w _ om])
 have k1:decide (c≤1)=true:=decide_eq_true hc.2
 have hw:H.within d 2=true:=by unfold H.within;simp;omega
 clear hc hd hf
 go_enter func104,ntmps104
 go_wp2_with (first
  |(go_at_call 189;refine(zbf _ _ _).mono ?_;rintro e w3 ⟨rfl,rfl⟩;try rw [hw])
  |(go_at_call 187;refine(zX _ _ _ _).mono ?_;rintro e w3 ⟨rfl,hb3⟩))
 go_ret
 exact⟨ret_int (by rw [HX.out];rfl),hb3⟩
theorem zbi(c k n:Int)(w:World)(hc:0≤c∧c≤1)(hk:0≤k∧k≤5)(hn:0≤n∧n≤255):cB 105 #[.int .u8 c,.int .u8 k,.int .u8 n] w (.int .u64 (U (H.pocket c k n))):=by
 have HX:=hid (show wrap64 (wrap64 (256*wrap64 (wrap64 (6*wrap64 c)+wrap64 k))+wrap64 n)=256*(6*c+k)+n by rw [H.w c om,H.w k om,H.w n om,H.w (6*c) om,H.w (6*c+k) om,H.w (256*(6*c+k)) om,H.w _ om])
 have k1:decide (c≤1)=true:=decide_eq_true hc.2
 have k2:decide (k≤5)=true:=decide_eq_true hk.2
 cases k3:decide (1≤k)
 all_goals
  have HE:=hid (show H.pocket c k n=H.partIf _ 5 (256*(6*c+k)+n)from(show H.pocket c k n=H.partIf (decide (1≤k)&&(decide (k≤5)&&decide (0<n))) 5 (256*(6*c+k)+n)from rfl).trans (by rw [k3,k2]))
  clear hc hk hn
  go_enter func105,ntmps105
  go_wp2_with (go_at_call 187;refine(zX _ _ _ _).mono ?_;rintro e w5 ⟨rfl,hb3⟩)
  go_ret
  exact⟨ret_int (by rw [HX.out,HE.out];rfl),hb3⟩
theorem zbh(c n:Int)(w:World)(hc:0≤c∧c≤1)(hn:0≤n∧n≤255):cB 106 #[.int .u8 c,.int .u8 n] w (.int .u64 (U (H.checks c n))):=by
 have HX:=hid (show wrap64 (wrap64 (256*wrap64 c)+wrap64 n)=256*c+n by rw [H.w c om,H.w n om,H.w (256*c) om,H.w _ om])
 have k1:decide (c≤1)=true:=decide_eq_true hc.2
 clear hc hn
 go_enter func106,ntmps106
 go_wp2_with (go_at_call 187;refine(zX _ _ _ _).mono ?_;rintro e w5 ⟨rfl,hb3⟩)
 go_ret
 exact⟨ret_int (by rw [HX.out];rfl),hb3⟩
namespace H
def proms(b:BitVec 64):Nat→BitVec 64
 |0=>0#64
 |n+1=>bXor (proms b n) (partIf (bit b n) 7 n)
def promoted(b:BitVec 64):BitVec 64:=proms b 64
end H
theorem H.bit_val(b:BitVec 64)(n:Nat)(h:n≤64):(bits .and .u64 (U b/2 ^ n) 1==1)=bit b n:=by
 have h1:=zaC b n
 rw [Nat.min_eq_left h]at h1
 have h2:b.toNat>>>n<18446744073709551616:=by
  have:=bv_lt b
  rw [Nat.shiftRight_eq_div_pow]
  exact Nat.lt_of_le_of_lt (Nat.div_le_self _ _) this
 rw [h1,bit_test]
 unfold U bShr
 rw [BitVec.toNat_ushiftRight]
 have h3:=u64_and_nat (b.toNat>>>n) 1 h2 dc
 rw [show((1:Nat):Int)=1 from rfl]at h3
 rw [h3,Nat.and_one_is_mod,Nat.shiftRight_eq_div_pow,Nat.testBit_eq_decide_div_mod_eq]
 rw [Bool.eq_iff_iff,beq_iff_eq,decide_eq_true_iff]
 omega
theorem zbk(b:BitVec 64)(w:World):cB 109 #[.int .u64 (U b)] w (.int .u64 (U (H.promoted b))):=by
 go_enter func109,ntmps109
 go_wp2
 go_loopw [3,5] (fun v i wr=>∃k:Nat,k≤64∧i= .int .i64 (k:Int)∧v= .int .u64 (U (H.proms b k))∧Below w.heap.size w wr) (fun _ i _=>64-(intOf i).toNat)
 case atStart=>exact⟨0,Nat.zero_le _,rfl,rfl,Below.refl _ _⟩
 case round=>
  obtain⟨k,hk,rfl,rfl,hbr⟩:=hrel
  by_cases hlt:k<64
  ·have hsz:=Int.natCast_nonneg k
   have htn:=Int.toNat_natCast k
   have HB:=hid (H.bit_val b k hk)
   have HX:=hid (zeI (H.proms b k) (H.partIf (bit b k) 7 k))
   go_wp2_with (go_at_call 187;refine(zX _ _ _ _).mono ?_;rintro e w5 ⟨rfl,hb3⟩)
   exact⟨⟨k+1,by omega,by go_num,by(first|(rw [HB.out,HX.out];rfl)|(rw [HB.out];rfl)),za hbr hb3⟩,by simp [intOf];omega⟩
  ·obtain rfl:k=64:=by omega
   go_wp2
   go_ret
   exact⟨rfl,hbr⟩
end
section
open Go.RowKit Go.Sort
attribute [local go_sem] Oper.semAt_some
theorem H.setCell_same{W:World}{b:Nat}{t:TypeId}{v:Value}(h:Boxed W b t v):W.setCell ⟨b,0,none⟩ v=W:=by
 have hlt:=h.lt
 have hg:W.heap[b]= .cells #[v] t (0,0):=by
  have:=h
  unfold Boxed at this
  exact(Array.getElem?_eq_some_iff.1 this).2
 unfold World.setCell
 refine congrArg (fun h=>({W with heap:=h}:World)) (Array.ext sp fun i h1 h2=> ?_)
 rw [Array.getElem_modify]
 split
 ·rename_i e
  have e:b=i:=e
  subst e
  rw [hg]
  rfl
 ·rfl
theorem zdG{n m:Nat}{P:Program}{l:Nat}{f:FuncId}{tmps:Array Value}{assign body:Code}{w:World}{R:Ending→World→Prop}(h:RoundIn Fence.wide n P l f tmps assign body w R):RoundIn Fence.wide m P l f tmps assign body w R:=
 ⟨h.1,fun c cs _=>h.2 c cs (room_wide _)⟩
theorem zdB{n m:Nat}{P:Program}{l:Nat}{args:Array Value}{w:World}{R:Ending→World→Prop}(h:YieldAt Fence.wide n P l args w R):YieldAt Fence.wide m P l args w R:=by
 obtain⟨fn,tmps,assign,body,h1,h2⟩:=h
 exact⟨fn,tmps,assign,body,h1,zdG h2⟩
theorem htell(n m l Bm By:Nat)(x:BitVec 64)(W:World)(R:World→Prop)(hm:Boxed W Bm 4 (.bool true))(hy:Boxed W By 191 (.func (.yield l) #[] #[]))
  (hY:YieldAt Fence.wide m prog l #[.int .u64 (U x)] W fun e W'=>e= .returned (.bool true)∧R W'∧Boxed W' Bm 4 (.bool true)):
  CallsIn Fence.wide n prog 137 #[.int .u64 (U x),.pointer (some ⟨Bm,0,none⟩),.pointer (some ⟨By,0,none⟩)] W fun e W'=>(∃v,e= .returned v)∧R W':=by
 have hcm:=hm.cell
 have hcy:=hy.cell
 clear hy hm
 obtain⟨fn,tmps,assign,body,hy,hR⟩:=zdB (m:=n-1) hY
 clear hY
 refine callsIn_of_wp func137 rfl trivial ?_ rfl
 simp only [ntmps137,List.size_toArray,List.length_cons,List.length_nil,Nat.reduceAdd,Nat.reduceSub,Array.replicate_succ,Array.replicate_zero,List.push_toArray,List.append_toArray,List.nil_append,List.cons_append]
 gi_wp2
 refine⟨fun h=>by simp [Fence.wide]at h,hR.mono ?_⟩
 rintro e W3 ⟨rfl,hJ3,hk3⟩
 have hs:=H.setCell_same hk3
 have hf3:=hk3.frozen
 have hc3:=hk3.cell
 gi_wp2
 go_end0
 exact⟨⟨_,rfl⟩,hJ3⟩
end
section
open Go.RowKit Go.Sort
namespace H
def Kp(bx:Nat)(W W':World):Prop:=W.heap.size≤W'.heap.size∧∀(b:Nat) (o:Obj),b≠bx→W.heap[b]? =some o→o.isCells=true→W'.heap[b]? =some o
structure At (Bp By Bm l:Nat) (c:Nat→Int) (W:World):Prop where
 pos:PosAt W Bp c
 yb:Boxed W By 191 (.func (.yield l) #[] #[])
 mb:Boxed W Bm 4 (.bool true)
theorem At.kp{bx Bp By Bm l:Nat}{c:Nat→Int}{W W':World}(h:At Bp By Bm l c W)(h1:Bp≠bx)(h2:By≠bx)(h3:Bm≠bx)(hk:Kp bx W W'):At Bp By Bm l c W':=
 ⟨⟨hk.2 _ _ h1 h.pos.heap rfl⟩,hk.2 _ _ h2 h.yb rfl,hk.2 _ _ h3 h.mb rfl⟩
theorem At.below{Bp By Bm l:Nat}{c:Nat→Int}{W W':World}(h:At Bp By Bm l c W)(hb:Below W.heap.size W W'):At Bp By Bm l c W':=
 ⟨h.pos.below hb,(hb.block _ h.yb.lt).trans h.yb,(hb.block _ h.mb.lt).trans h.mb⟩
def bdParts(c:Nat→Int)(n:Nat):List (BitVec 64):=(List.range n).map fun(s:Nat)=>piece (c (1+s)) s
def rkParts(c:Nat→Int)(t n:Nat):List (BitVec 64):=(List.range n).map fun(d:Nat)=>rook t d (c (79+2*t+d))
def pkParts(c:Nat→Int)(t n:Nat):List (BitVec 64):=(List.range n).map fun(k:Nat)=>pocket t k (c (66+6*t+k))
def colParts(c:Nat→Int)(t:Nat):List (BitVec 64):=rkParts c t 2++(pkParts c t 6++[checks t (c (84+t))])
def cols(c:Nat→Int)(n:Nat):List (BitVec 64):=(List.range n).flatMap (colParts c)
def parts(c:Nat→Int):List (BitVec 64):=bdParts c 64++[turn (c 78)]++[passing (c 83)]++cols c 2++[promoted (A.bs (c 65))]++[part 8 (c 0)]
theorem bdParts_succ(c:Nat→Int)(n:Nat):bdParts c (n+1)=bdParts c n++[piece (c (1+n)) n]:=by unfold bdParts;rw [List.range_succ,List.map_append];rfl
theorem rkParts_succ(c:Nat→Int)(t n:Nat):rkParts c t (n+1)=rkParts c t n++[rook t n (c (79+2*t+n))]:=by unfold rkParts;rw [List.range_succ,List.map_append];rfl
theorem pkParts_succ(c:Nat→Int)(t n:Nat):pkParts c t (n+1)=pkParts c t n++[pocket t n (c (66+6*t+n))]:=by unfold pkParts;rw [List.range_succ,List.map_append];rfl
theorem cols_succ(c:Nat→Int)(n:Nat):cols c (n+1)=cols c n++colParts c n:=by unfold cols;rw [List.range_succ,List.flatMap_append];simp
def rkL(c:Nat→Int)(t:Nat):List Value:=(List.range 2).map fun d=>Value.int .i8 (c (79+2*t+d))
def pkL(c:Nat→Int)(t:Nat):List Value:=(List.range 6).map fun k=>Value.int .u8 (c (66+6*t+k))
theorem zfQ(c:Nat→Int)(t i:Nat)(h:i<2):(rkL c t)[i]? =some (.int .i8 (c (79+2*t+i))):=by simp [rkL,h]
theorem zgS(c:Nat→Int)(t i:Nat)(h:i<6):(pkL c t)[i]? =some (.int .u8 (c (66+6*t+i))):=by simp [pkL,h]
theorem rk_index(c:Nat→Int)(t k:Nat)(hk:k<2)(w:World):(Instr.index 27 (.agg (rkL c t).toArray) (.int .i64 (k:Int))).run prog w= .ok (.int .i8 (c (79+2*t+k))) w:=by
 have h2:((k:Int)<2):=by omega
 have e:=zfQ c t k hk
 simp [Instr.index,run_underlying underlying27,asIntOf,go_sem,e,hk]
theorem pk_index(c:Nat→Int)(t k:Nat)(hk:k<6)(w:World):(Instr.index 24 (.agg (pkL c t).toArray) (.int .i64 (k:Int))).run prog w= .ok (.int .u8 (c (66+6*t+k))) w:=by
 have h2:((k:Int)<6):=by omega
 have e:=zgS c t k hk
 simp [Instr.index,run_underlying underlying24,asIntOf,go_sem,e,hk]
theorem p_i8{c:Nat→Int}(h:PosOk c){i:Nat}(hi:i<88)(hk:pk i= .i8): -128≤c i∧c i≤127:=by
 have:=h i hi
 rw [hk]at this
 exact bounds_i8 this
theorem k_rk(t j:Nat)(ht:t<2)(hj:j<2):pk (79+2*t+j)= .i8:=by rcases(show t=0∨t=1 by omega)with rfl|rfl<;>rcases(show j=0∨j=1 by omega)with rfl|rfl<;>rfl
theorem k_pk(t j:Nat)(ht:t<2)(hj:j<6):pk (66+6*t+j)= .u8:=by rcases(show t=0∨t=1 by omega)with rfl|rfl<;>rcases(show j=0∨j=1∨j=2∨j=3∨j=4∨j=5 by omega)with rfl|rfl|rfl|rfl|rfl|rfl<;>rfl
theorem k_ck(t:Nat)(ht:t<2):pk (84+t)= .u8:=by rcases(show t=0∨t=1 by omega)with rfl|rfl<;>rfl
theorem rk_range{w:World}{b:Nat}{c:Nat→Int}(hp:PosAt w b c)(t:Nat)(ht:t<2):w.rangeAt b (79+t*2) (rkL c t):=by
 rw [Nat.mul_comm t 2]
 intro j v hv
 by_cases h:j<2
 ·rw [zfQ c t j h]at hv
  rw [←hv]
  exact hp.cellK (79+2*t+j) om .i8 (k_rk t j ht h)
 ·rw [List.getElem?_eq_none (by simp [rkL];omega)]at hv;cases hv
theorem pk_range{w:World}{b:Nat}{c:Nat→Int}(hp:PosAt w b c)(t:Nat)(ht:t<2):w.rangeAt b (66+t*6) (pkL c t):=by
 rw [Nat.mul_comm t 6]
 intro j v hv
 by_cases h:j<6
 ·rw [zgS c t j h]at hv
  rw [←hv]
  exact hp.cellK (66+6*t+j) om .u8 (k_pk t j ht h)
 ·rw [List.getElem?_eq_none (by simp [pkL];omega)]at hv;cases hv
theorem size_rk:(prog.info? 27).map (·.size)=some 2:=by kernel_rfl
theorem size_pk:(prog.info? 24).map (·.size)=some 6:=by kernel_rfl
theorem tell_step{bx Bp By Bm l m:Nat}{c:Nat→Int}{J:List (BitVec 64)→World→Prop}(h1:Bp≠bx)(h2:By≠bx)(h3:Bm≠bx)
  (hY:∀pre x W1,J pre W1→YieldAt Fence.wide m prog l #[.int .u64 (U x)] W1 fun e W'=>e= .returned (.bool true)∧J (pre++[x]) W'∧Kp bx W1 W')
  (pre:List (BitVec 64)) (x:BitVec 64) (W:World) (hJ:J pre W) (hA:At Bp By Bm l c W):
  Calls prog 137 #[.int .u64 (U x),.pointer (some ⟨Bm,0,none⟩),.pointer (some ⟨By,0,none⟩)] W fun e W'=>(∃v,e= .returned v)∧(J (pre++[x]) W'∧At Bp By Bm l c W'):=by
 refine(callsIn_wide (n:=6)).1 (htell 6 m l Bm By x W _ hA.mb hA.yb ?_)
 obtain⟨fn,tmps,assign,body,hy,hR⟩:=hY pre x W hJ
 exact⟨fn,tmps,assign,body,hy,hR.mono fun e W' ⟨he,hj,hk⟩=>⟨he,⟨hj,hA.kp h1 h2 h3 hk⟩,(hA.kp h1 h2 h3 hk).mb⟩⟩
end H
theorem zcN(l bx Bp m:Nat)(c:Nat→Int)(J:List (BitVec 64)→World→Prop)(W:World)(hc:PosOk c)(hp:PosAt W Bp c)(hne:Bp≠bx)(hbx:bx<W.heap.size)(hJ:∀s,Grows (J s))(h0:J [] W)
  (hY:∀pre x W1,J pre W1→YieldAt Fence.wide m prog l #[.int .u64 (U x)] W1 fun e W'=>e= .returned (.bool true)∧J (pre++[x]) W'∧H.Kp bx W1 W'):
  Calls prog 136 #[.func (.yield l) #[] #[],.pointer (some ⟨Bp,0,none⟩)] W fun e W'=>(∃v,e= .returned v)∧∃xs,xs=H.parts c∧J xs W':=by
 have HT:=hid (fun pre x W1 (hj:J pre W1) (hA:H.At Bp W.heap.size (W.heap.size+1) l c W1)=>H.tell_step hne om om hY pre x W1 hj hA)
 have hA:H.At Bp W.heap.size (W.heap.size+1) l c ((W.alloc (.cells #[.func (.yield l) #[] #[]] 191)).alloc (.cells #[.bool true] 4)):=by
  refine⟨(hp.alloc _).alloc _,(Boxed.new _ _ _).alloc _,?_⟩
  have:=Boxed.new (W.alloc (.cells #[.func (.yield l) #[] #[]] 191)) 4 (.bool true)
  rwa [World.size_alloc]at this
 have hj:J [] ((W.alloc (.cells #[.func (.yield l) #[] #[]] 191)).alloc (.cells #[.bool true] 4)):=hJ _ _ _ (hJ _ _ _ h0 bA) bA
 obtain⟨W1,hW1⟩:∃W1,((W.alloc (.cells #[.func (.yield l) #[] #[]] 191)).alloc (.cells #[.bool true] 4))=W1:=⟨_,rfl⟩
 rw [hW1]at hA hj
 have HJ:=hid hJ
 have Hc:=hid hc
 clear hY hp hne hbx hJ h0 hc
 go_enter func136,ntmps136
 go_upto_region 3 with fail
 clear hW1
 go_upto_region 4 with((with_reducible refine zbT rfl _ rfl c ?_ ?_);·(exact⟨_,_,_,rfl,hA.pos.heap⟩))
 have HA:=hid hA
 have Hj:=hid hj
 clear hA hj
 go_loopw [15] (fun i wr=>∃k:Nat,k≤64∧i= .int .i64 (k:Int)∧J (H.bdParts c k) wr∧H.At Bp W.heap.size (W.heap.size+1) l c wr) (fun i _=>64-(intOf i).toNat)
 case atStart=>exact⟨0,Nat.zero_le _,rfl,Hj,HA⟩
 case round=>
  obtain⟨k,hk,rfl,hj,hA⟩:=hrel
  by_cases hlt:k<64
  ·have hi:=zcL c k hlt
   have HB:=hid (zw Hc k hlt)
   have HS:=hid (H.bdParts_succ c k)
   have HK:=hid (show(0:Int)≤(k:Int)∧(k:Int)<64 by omega)
   go_wp2_with (first
    |(go_at_call 103;refine(zbS _ _ _ HB.1 HB.2 HK).mono ?_;rintro e w2 ⟨rfl,hb2⟩;replace hj:=HJ _ _ _ hj hb2;replace hA:=hA.below hb2;clear hb2)
    |(go_at_call 137;refine(HT _ _ _ hj hA).mono ?_;rintro e w3 ⟨⟨v,rfl⟩,hj3,hA3⟩;rw [←HS.out]at hj3))
   exact⟨⟨k+1,by omega,by go_num,hj3,hA3⟩,by simp [intOf];omega⟩
  ·obtain rfl:k=64:=by omega
   clear Hj HA hk hlt
   go_upto_region 8 with fail
   have c78:=hA.pos.cellK 78 dc .u8 rfl
   go_upto_region 9 with(first
    |(go_at_call 107;refine(zcm _ _).mono ?_;rintro e w2 ⟨rfl,hb2⟩;replace hj:=HJ _ _ _ hj hb2;replace hA:=hA.below hb2;clear hb2 c78)
    |(go_at_call 137;refine(HT _ _ _ hj hA).mono ?_;rintro e w3 ⟨⟨v,rfl⟩,hj3,hA3⟩;clear hj hA))
   have c83:=hA3.pos.cellK 83 dc .i8 rfl
   have W83:=hid (H.w (c 83) (by have:=H.p_i8 Hc (i:=83) dc rfl;omega))
   go_upto_region 11 with(first
    |(go_at_call 108;refine(zaZ _ _).mono ?_;rintro e w4 ⟨rfl,hb2⟩;replace hj3:=HJ _ _ _ hj3 hb2;replace hA3:=hA3.below hb2;clear hb2 c83)
    |(go_at_call 137;refine(HT _ _ _ hj3 hA3).mono ?_;rintro e w5 ⟨⟨v,rfl⟩,hj5,hA5⟩;rw [W83.out]at hj5;clear hj3 hA3))
   have Hj5:=hid hj5
   have HA5:=hid hA5
   clear hj5 hA5 W83
   go_loopw [7] (fun i wr=>∃k:Nat,k≤2∧i= .int .u8 (k:Int)∧J (H.bdParts c 64++[H.turn (c 78)]++[H.passing (c 83)]++H.cols c k) wr∧H.At Bp W.heap.size (W.heap.size+1) l c wr) (fun i _=>2-(intOf i).toNat)
   case atStart=>exact⟨0,by omega,rfl,by simpa [H.cols]using Hj5.out,HA5⟩
   case round=>
    obtain⟨k,hk,rfl,hj,hA⟩:=hrel
    clear Hj5 HA5
    by_cases hlt:k<2
    ·have HB:=hid (show(0:Int)≤(k:Int)∧(k:Int)≤1 by omega)
     have HN:=hid (H.cols_succ c k)
     have hk2:(k:Int)<2:=by omega
     have hk1:(k:Int)≤1:=by omega
     have hk0:=Int.natCast_nonneg k
     have htn:=Int.toNat_natCast k
     go_upto_region 14 with((refine wpList_load_mid rfl 27 _ rfl Bp (79+k*2) rfl (H.rkL c k) _ (H.rk_range hA.pos k hlt) underlying27 rfl H.size_rk ?_))
     have Hj:=hid hj
     have HA:=hid hA
     clear hj hA
     go_loopw [44] (fun i wr=>∃j:Nat,j≤2∧i= .int .i64 (j:Int)∧J (H.bdParts c 64++[H.turn (c 78)]++[H.passing (c 83)]++H.cols c k++H.rkParts c k j) wr∧H.At Bp W.heap.size (W.heap.size+1) l c wr) (fun i _=>2-(intOf i).toNat)
     case atStart=>exact⟨0,by omega,rfl,by simpa [H.rkParts]using Hj.out,HA⟩
     case round=>
      obtain⟨j,hj2,rfl,hj,hA⟩:=hrel
      by_cases hl2:j<2
      ·have hi:=H.rk_index c k j hl2
       have HJJ:=hid (show(0:Int)≤(j:Int)∧(j:Int)≤1 by omega)
       have h8:=H.p_i8 Hc (i:=79+2*k+j) om (H.k_rk k j hlt hl2)
       have hw:=H.w (c (79+2*k+j)) om
       have HF:=hid (show-128≤wrap64 (c (79+2*k+j))∧wrap64 (c (79+2*k+j))≤127 by rw [hw];exact h8)
       have HW:=hid hw
       have HR:=hid (H.rkParts_succ c k j)
       clear h8 hw
       go_wp2_with (first
        |(go_at_call 104;refine(zcc _ _ _ _ HB HJJ HF).mono ?_;rintro e w6 ⟨rfl,hb2⟩;replace hj:=HJ _ _ _ hj hb2;replace hA:=hA.below hb2;clear hb2)
        |(go_at_call 137;refine(HT _ _ _ hj hA).mono ?_;rintro e w7 ⟨⟨v,rfl⟩,hj7,hA7⟩;rw [HW.out,List.append_assoc,←HR.out]at hj7))
       exact⟨⟨j+1,by omega,by go_num,hj7,hA7⟩,by simp [intOf];omega⟩
      ·obtain rfl:j=2:=by omega
       clear Hj HA hj2 hl2
       go_upto_region 19 with((refine wpList_load_mid rfl 24 _ rfl Bp (66+k*6) rfl (H.pkL c k) _ (H.pk_range hA.pos k hlt) underlying24 rfl H.size_pk ?_))
       have Hj:=hid hj
       have HA:=hid hA
       clear hj hA
       go_loopw [60] (fun i wr=>∃j:Nat,j≤6∧i= .int .i64 (j:Int)∧J (H.bdParts c 64++[H.turn (c 78)]++[H.passing (c 83)]++H.cols c k++H.rkParts c k 2++H.pkParts c k j) wr∧H.At Bp W.heap.size (W.heap.size+1) l c wr) (fun i _=>6-(intOf i).toNat)
       case atStart=>exact⟨0,by omega,rfl,by simpa [H.pkParts]using Hj.out,HA⟩
       case round=>
        obtain⟨j,hj2,rfl,hj,hA⟩:=hrel
        by_cases hl2:j<6
        ·have hi:=H.pk_index c k j hl2
         have hu:IntKind.u8.wrap (j:Int)=(j:Int):=by rw [IntKind.wrap_u8];omega
         have HJJ:=hid (show(0:Int)≤(j:Int)∧(j:Int)≤5 by omega)
         have HF:=hid (zp Hc (i:=66+6*k+j) om (H.k_pk k j hlt hl2))
         have HR:=hid (H.pkParts_succ c k j)
         go_wp2_with (first
          |(go_at_call 105;refine(zbi _ _ _ _ HB HJJ HF).mono ?_;rintro e w6 ⟨rfl,hb2⟩;replace hj:=HJ _ _ _ hj hb2;replace hA:=hA.below hb2;clear hb2)
          |(go_at_call 137;refine(HT _ _ _ hj hA).mono ?_;rintro e w7 ⟨⟨v,rfl⟩,hj7,hA7⟩;rw [List.append_assoc,←HR.out]at hj7))
         exact⟨⟨j+1,by omega,by go_num,hj7,hA7⟩,by simp [intOf];omega⟩
        ·obtain rfl:j=6:=by omega
         clear Hj HA hj2 hl2
         have c84:=hA.pos.cellK (84+k) om .u8 (H.k_ck k hlt)
         have HF:=hid (zp Hc (i:=84+k) om (H.k_ck k hlt))
         have hu:IntKind.u8.wrap ((k:Int)+1)=((k+1:Nat):Int):=by rw [IntKind.wrap_u8];omega
         go_wp2_with (first
          |(go_at_call 106;refine(zbh _ _ _ HB HF).mono ?_;rintro e w6 ⟨rfl,hb2⟩;replace hj:=HJ _ _ _ hj hb2;replace hA:=hA.below hb2;clear hb2 c84)
          |(go_at_call 137;refine(HT _ _ _ hj hA).mono ?_;rintro e w7 ⟨⟨v,rfl⟩,hj7,hA7⟩;clear hj hA))
         exact⟨⟨k+1,by omega,by go_num,by rw [HN.out];unfold H.colParts;simpa [List.append_assoc]using hj7,hA7⟩,by simp [intOf];omega⟩
    ·obtain rfl:k=2:=by omega
     have c65:=hA.pos.cellK 65 dc .u64 rfl
     rw [←A.c65 Hc.out]at c65
     go_upto_region 25 with(first
      |(go_at_call 109;refine(zbk _ _).mono ?_;rintro e w6 ⟨rfl,hb2⟩;replace hj:=HJ _ _ _ hj hb2;replace hA:=hA.below hb2;clear hb2 c65)
      |(go_at_call 137;refine(HT _ _ _ hj hA).mono ?_;rintro e w7 ⟨⟨v,rfl⟩,hj7,hA7⟩;clear hj hA))
     have c0:=hA7.pos.cellK 0 dc .u8 rfl
     have W0:=hid (H.w (c 0) (by have:=zp Hc (i:=0) dc rfl;omega))
     go_wp2_with (first
      |(go_at_call 138;refine(zdd _ _ _).mono ?_;rintro e w8 ⟨rfl,hb2⟩;replace hj7:=HJ _ _ _ hj7 hb2;replace hA7:=hA7.below hb2;clear hb2 c0)
      |(go_at_call 137;refine(HT _ _ _ hj7 hA7).mono ?_;rintro e w9 ⟨⟨v,rfl⟩,hj9,hA9⟩;rw [W0.out]at hj9))
     go_end0
     exact⟨⟨_,rfl⟩,_,rfl,hj9⟩
end
section
open Go.RowKit Go.Sort
attribute [local go_sem] Oper.semAt_some
theorem V.bothTo_succ(v:Int)(l:Nat→Int)(n:Nat):V.bothTo v l (n+1)=if V.castles v=true∧l n=4 then V.rooks (V.file (V.bothTo v l n) n (l n)) n else V.file (V.bothTo v l n) n (l n):=rfl
def V.row8(l:Nat→Int):Array Value:= #[.int .u8 (l 0),.int .u8 (l 1),.int .u8 (l 2),.int .u8 (l 3),.int .u8 (l 4),.int .u8 (l 5),.int .u8 (l 6),.int .u8 (l 7)]
theorem V.row8_at(l:Nat→Int)(n:Nat)(h:n<8):(V.row8 l)[n]? =some (.int .u8 (l n)):=by
 rcases(show n=0∨n=1∨n=2∨n=3∨n=4∨n=5∨n=6∨n=7 by omega)with rfl|rfl|rfl|rfl|rfl|rfl|rfl|rfl<;>rfl
theorem V.file_eq(c:Nat→Int)(n:Nat)(k:Int):V.file c n k=upd (upd (upd (upd c (1+n) k) (1+(8+n)) 1) (1+(56+n)) (8+k)) (1+(48+n)) 9:=by
 unfold V.file
 rw [show 1+(8+n)=9+n by omega,show 1+(56+n)=57+n by omega,show 1+(48+n)=49+n by omega]
theorem size_i8S:(prog.info? 26).map (·.size)=some 1:=by kernel_rfl
theorem V.row8_index(l:Nat→Int)(k:Nat)(hk:k<8)(w:World):(Instr.index 143 (.agg (V.row8 l)) (.int .i64 (k:Int))).run prog w= .ok (.int .u8 (l k)) w:=by
 have h2:((k:Int)<8):=by omega
 have e:=V.row8_at l k hk
 simp [Instr.index,run_underlying underlying143,asIntOf,go_sem,part,e,hk]
theorem zhI(v:Nat)(l:Nat→Int)(w:World)(hl:∀n,n<8→0≤l n∧l n≤6):
  cB 87 #[.int .u8 (v:Int),.agg (V.row8 l)] w (.agg (posC (V.bothTo v l 8))):=by
 have hr0:=RowAt.new w (V.row8 l) 143
 have hb0:Below w.heap.size w (w.alloc (.cells (V.row8 l) 143)):=bA
 have hb1:=hb0.alloc sp (.cells zeroCells31 31)
 replace hr0:=hr0.alloc (.cells zeroCells31 31)
 have hz:=heap_alloc_new (w.alloc (.cells (V.row8 l) 143)) (.cells zeroCells31 31)
 rw [World.size_alloc]at hz
 obtain⟨W0,hW0⟩:∃W0,w.alloc (.cells (V.row8 l) 143)=W0:=⟨_,rfl⟩
 rw [hW0]at hr0 hb1 hz
 have hs0:W0.heap.size=w.heap.size+1:=by rw [←hW0];simp
 obtain⟨W,hW⟩:∃W,W0.alloc (.cells zeroCells31 31)=W:=⟨_,rfl⟩
 rw [hW]at hr0 hb1 hz
 have hs:W.heap.size=w.heap.size+2:=by rw [←hW];simp;omega
 have HL:=hid hl
 have HR:=hid hr0
 have HB:=hid hb1
 have HZ:=hid hz
 clear hl hr0 hb0 hb1 hz
 go_enter func87,ntmps87
 go_wp2_with (first
  |(go_at_call 168;refine(zhH _ _).mono ?_;rintro e w1 ⟨rfl,hb2⟩;have HB2:=hid (za HB hb2);have HR2:=hid (HR.below hb2);have HZ2:=hid ((hb2.block _ om).trans HZ);have hs2:=hb2.size)
  |((with_reducible refine zn rfl _ _ rfl ?_);refine⟨_,_,rfl,rfl,⟨_,heap_alloc_new _ _,kr⟩,?_⟩;intro W3 hP3 hq;have HQ:=hid hq;have HB3:=hid (hP3.below (HB2.alloc HB2.size _) om);have HR3:=hid (hP3.row (HR2.alloc _) om);have HZ3:=hid ((hP3.block _ om).trans ((Below.heap_alloc _ _ _ om).trans HZ2));clear hq hP3)
  |((with_reducible refine zj rfl 143 _ rfl underlying143 rfl ?_);refine⟨w.heap.size,143,V.row8 l,rfl,HR3,kr,?_⟩))
 obtain⟨g,hg⟩:∃g,w1.heap.size=g:=⟨_,rfl⟩
 rw [hg]at HQ hs2⊢
 clear hg hb2
 go_loopw [12] (fun i wr=>∃n:Nat,n≤8∧i= .int .i64 (n:Int)∧PosAt wr g (V.bothTo v l n)∧wr.heap[w.heap.size+1]? =some (.cells zeroCells31 31 (0,0))∧Below w.heap.size w wr) (fun i _=>8-(intOf i).toNat)
 case atStart=>exact⟨0,Nat.zero_le _,rfl,HQ,HZ3,HB3⟩
 case round=>
  obtain⟨n,hn,rfl,hq,hz,hbr⟩:=hrel
  by_cases hlt:n<8
  ·have hi:=V.row8_index l n hlt
   obtain⟨k0,k1⟩:=HL n hlt
   have hst:=V.bothTo_succ v l n
   have hsz:=hq.lt
   obtain⟨c,hc⟩:∃c,V.bothTo v l n=c:=⟨_,rfl⟩
   rw [hc]at hst hq
   obtain⟨k,hk⟩:∃k,l n=k:=⟨_,rfl⟩
   rw [hk]at hi hst k0 k1
   have HST:=hid hst
   have HQr:=hid (And.intro hq (And.intro hz hbr))
   have HH:=hid (And.intro hn hlt)
   clear hq hz hbr hc hk hst hn
   go_wp2_with (first
    |((with_reducible refine zB rfl _ _ _ rfl ?_);refine⟨_,_,_,_,_,rfl,rfl,HQr.1,om,(by first|rfl|exact zk om|(unfold pk;rw [if_pos om])),size_u8,?_⟩;intro V1 hV1 hq1)
    |((with_reducible refine zB rfl _ _ _ rfl ?_);refine⟨_,_,_,_,_,rfl,rfl,hq1,om,(by first|rfl|exact zk om|(unfold pk;rw [if_pos om])),size_u8,?_⟩;intro V2 hV2 hq2))
   have hcA:=hq2.cell (i:=1+(56+n)) om
   have hcB:=hq2.cell (i:=1+(48+n)) om
   rw [show pk (1+(56+n))= .u8 by unfold pk;rw [if_pos om]]at hcA
   rw [show pk (1+(48+n))= .u8 by unfold pk;rw [if_pos om]]at hcB
   have hfA:=hq2.frozen (1+(56+n))
   have hfB:=hq2.frozen (1+(48+n))
   have hw1:wrap64 (56+(n:Int))=56+(n:Int):=IntWalk.wrap64_in _ ⟨by omega,by omega⟩
   have hw2:wrap64 (48+(n:Int))=48+(n:Int):=IntWalk.wrap64_in _ ⟨by omega,by omega⟩
   have hx1:0≤(56:Int)+(n:Int)∧(56:Int)+(n:Int)<64:=by omega
   have hx2:0≤(48:Int)+(n:Int)∧(48:Int)+(n:Int)<64:=by omega
   have hi1:IntKind.i64.wrap (56+(n:Int))=56+(n:Int):=by unfold IntKind.wrap;simp [IntKind.bits,IntKind.signed];omega
   have hi2:IntKind.i64.wrap (48+(n:Int))=48+(n:Int):=by unfold IntKind.wrap;simp [IntKind.bits,IntKind.signed];omega
   have hj1:((56:Int)+(n:Int)).toNat=56+n:=by omega
   have hj2:((48:Int)+(n:Int)).toNat=48+n:=by omega
   have hne:(48+n=56+n)=False:=by simp
   have HV:=hid (And.intro hV1 (And.intro hV2 hq2))
   clear hV1 hV2 hq2 hq1
   go_region_with (first
    |(go_at_call 169;refine(zdM k _ k0 k1).mono ?_;rintro e w' ⟨rfl,rfl⟩)
    |(go_at_call 169;refine(zdM 1 _ dc dc).mono ?_;rintro e w' ⟨rfl,rfl⟩))
   have hpA:pk (1+(56+n))= .u8:=by unfold pk;rw [if_pos om]
   have hpB:pk (1+(48+n))= .u8:=by unfold pk;rw [if_pos om]
   obtain⟨W4,hW4⟩:∃W4,((V2.setCell ⟨g,1+(56+n),none⟩ (.int .u8 (8+k))).setCell ⟨g,1+(48+n),none⟩ (.int .u8 9)).drew=W4:=⟨_,rfl⟩
   have hq4:PosAt W4 g (V.file c n k):=by
    rw [←hW4,V.file_eq]
    exact⟨((HV.2.2.setCell (i:=1+(56+n)) om hpA (8+k)).setCell (i:=1+(48+n)) om hpB 9).heap⟩
   have hP4:Put g wr W4:=by
    have:=((HV.1.trans HV.2.1).trans (zN V2 g (1+(56+n)) (.int .u8 (8+k)))).trans (zN _ g (1+(48+n)) (.int .u8 9))
    rw [←hW4]
    exact⟨this.os,this.tape,this.output,this.size,this.block⟩
   have hz4:=(hP4.block (w.heap.size+1) om).trans HQr.2.1
   have hbr4:=hP4.below HQr.2.2 (show w.heap.size≤g by omega)
   have H4:=hid (And.intro hq4 (And.intro hz4 (And.intro hbr4 (show w.heap.size+1<W4.heap.size by rw [hP4.size];omega))))
   have w8:IntKind.i8.wrap (n:Int)=(n:Int):=by unfold IntKind.wrap;simp [IntKind.bits,IntKind.signed];omega
   obtain⟨F,hF⟩:∃F,V.file c n k=F:=⟨_,rfl⟩
   rw [hF]at H4 HST
   have HCas:Hid (∀w,cB 170 #[.int .u8 (v:Int)] w (.bool (V.castles v))):=hid (zdn v)
   rw [hW4]
   have HLT:=hid hlt
   clear hq4 hP4 hz4 hbr4 hcA hcB hfA hfB hw1 hw2 hx1 hx2 hi1 hi2 hj1 hj2 hne hpA hpB hF hi k0 k1 HV hW4 HQr hlt
   generalize V.castles (v:Int)=cas at*
   cases cas
   ·have HE:=hid (show V.bothTo v l (n+1)=F by rw [HST.out];simp)
    clear HST
    go_wp2_with (first
     |(go_at_call 170;refine(HCas _).mono ?_;rintro e w6 ⟨rfl,hb6⟩;have hq6:=H4.1.below hb6;have hz6:=(hb6.block _ H4.2.2.2).trans H4.2.1;have hbr6:=za H4.2.2.1 hb6;have h80:=hq6.cell (i:=80) dc;rw [show pk 80= .i8 from rfl]at h80;clear hb6))
    exact⟨⟨n+1,by have:=HLT.out;omega,by have:=HLT.out;go_num,by rw [HE.out];exact hq6,hz6,hbr6⟩,by have:=HLT.out;simp [intOf];omega⟩
   ·by_cases k4:k=4
    ·have d4:(k==4)=true:=by simpa using k4
     have HE:=hid (show V.bothTo v l (n+1)=if F 80<0 then upd (upd F 80 n) 82 n else upd (upd F 79 n) 81 n by rw [HST.out,if_pos ⟨rfl,k4⟩];rfl)
     clear HST k4
     by_cases hr:F 80<0
     ·have d8:decide (F 80<0)=true:=decide_eq_true hr
      have HE2:=hid (HE.trans (if_pos hr))
      clear hr HE
      go_wp2_with (first
       |(go_at_call 170;refine(HCas _).mono ?_;rintro e w6 ⟨rfl,hb6⟩;have hq6:=H4.1.below hb6;have hz6:=(hb6.block _ H4.2.2.2).trans H4.2.1;have hbr6:=za H4.2.2.1 hb6;have h80:=hq6.cell (i:=80) dc;rw [show pk 80= .i8 from rfl]at h80;clear hb6)
       |((with_reducible refine zB rfl _ _ _ rfl ?_);refine⟨_,_,_,_,_,rfl,rfl,hq6,dc,rfl,size_i8S,?_⟩;intro V7 hV7 hq7)
       |((with_reducible refine zB rfl _ _ _ rfl ?_);refine⟨_,_,_,_,_,rfl,rfl,hq7,dc,rfl,size_i8S,?_⟩;intro V8 hV8 hq8))
      have hPP:=hV7.trans hV8
      exact⟨⟨n+1,by have:=HLT.out;omega,by have:=HLT.out;go_num,by rw [HE2.out];exact hq8,(hPP.block _ om).trans hz6,hPP.below hbr6 om⟩,by have:=HLT.out;simp [intOf];omega⟩
     ·have d8:decide (F 80<0)=false:=decide_eq_false hr
      have HE2:=hid (HE.trans (if_neg hr))
      clear hr HE
      go_wp2_with (first
       |(go_at_call 170;refine(HCas _).mono ?_;rintro e w6 ⟨rfl,hb6⟩;have hq6:=H4.1.below hb6;have hz6:=(hb6.block _ H4.2.2.2).trans H4.2.1;have hbr6:=za H4.2.2.1 hb6;have h80:=hq6.cell (i:=80) dc;rw [show pk 80= .i8 from rfl]at h80;clear hb6)
       |((with_reducible refine zB rfl _ _ _ rfl ?_);refine⟨_,_,_,_,_,rfl,rfl,hq6,dc,rfl,size_i8S,?_⟩;intro V7 hV7 hq7)
       |((with_reducible refine zB rfl _ _ _ rfl ?_);refine⟨_,_,_,_,_,rfl,rfl,hq7,dc,rfl,size_i8S,?_⟩;intro V8 hV8 hq8))
      have hPP:=hV7.trans hV8
      exact⟨⟨n+1,by have:=HLT.out;omega,by have:=HLT.out;go_num,by rw [HE2.out];exact hq8,(hPP.block _ om).trans hz6,hPP.below hbr6 om⟩,by have:=HLT.out;simp [intOf];omega⟩
    ·have d4:(k==4)=false:=by simpa using k4
     have HE:=hid (show V.bothTo v l (n+1)=F by rw [HST.out,if_neg (fun h=>k4 h.2)])
     clear HST k4
     go_wp2_with (first
      |(go_at_call 170;refine(HCas _).mono ?_;rintro e w6 ⟨rfl,hb6⟩;have hq6:=H4.1.below hb6;have hz6:=(hb6.block _ H4.2.2.2).trans H4.2.1;have hbr6:=za H4.2.2.1 hb6;have h80:=hq6.cell (i:=80) dc;rw [show pk 80= .i8 from rfl]at h80;clear hb6))
     exact⟨⟨n+1,by have:=HLT.out;omega,by have:=HLT.out;go_num,by rw [HE.out];exact hq6,hz6,hbr6⟩,by have:=HLT.out;simp [intOf];omega⟩
  ·obtain rfl:n=8:=by omega
   go_wp2_with (first
    |((with_reducible refine ze rfl _ rfl ?_);refine⟨_,_,rfl,hq,?_⟩)
    |((with_reducible refine zn rfl _ _ rfl ?_);refine⟨_,_,rfl,rfl,⟨_,hz,kr⟩,?_⟩;intro W5 hP5 hq5))
   exact bodyPost_ret (v:= .agg (posC (V.bothTo v l 8))) (results_cell_row results87 _ _ (w.heap.size+1) 31 _ (0,0) _ rfl hq5.heap underlying31 rfl (zr _)) rfl ⟨rfl,hP5.below hbr om⟩
namespace V
def home:Nat→Int
 |0=>4|1=>2|2=>3|3=>5|4=>6|5=>3|6=>2|7=>4|_=>0
def start(v:Int):Nat→Int:=bothTo v home 8
end V
theorem zfz(v:Nat)(w:World)(hv:v<7):cB 41 #[.int .u8 (v:Int)] w (.tuple #[.agg (posC (V.start v)),.bool true]):=by
 have hz:=heap_alloc_new w (.cells zeroCells31 31)
 have hb0:Below w.heap.size w (w.alloc (.cells zeroCells31 31)):=bA
 obtain⟨W,hW⟩:∃W,w.alloc (.cells zeroCells31 31)=W:=⟨_,rfl⟩
 rw [hW]at hz hb0
 have hs:W.heap.size=w.heap.size+1:=by rw [←hW];simp
 have d9:decide ((9:Int)≤(v:Int))=false:=by simp;omega
 have d7:((v:Int)==7)=false:=by simp;omega
 have d8:((v:Int)==8)=false:=by simp;omega
 have HB:Hid (∀w T,T=(v:Int)→cB 87 #[.int .u8 T,.agg #[.int .u8 4,.int .u8 2,.int .u8 3,.int .u8 5,.int .u8 6,.int .u8 3,.int .u8 2,.int .u8 4]] w (.agg (posC (V.start v)))):=
  hid (fun w T h=>by rw [h];exact zhI v V.home w dc)
 have HZ:=hid (And.intro hz hb0)
 clear hz hb0 hv
 go_enter func41,ntmps41
 go_wp2_with (first
  |(go_at_call 88;refine(zfA _).mono ?_;rintro e w1 ⟨rfl,hb1⟩)
  |(go_at_call 87;refine(HB _ _ (by first|rfl|omega)).mono ?_;rintro e w2 ⟨rfl,hb2⟩)
  |((with_reducible refine zn rfl _ _ rfl ?_);refine⟨w.heap.size,_,rfl,rfl,⟨_,(hb2.block _ (by have:=hb1.size;omega)).trans ((hb1.block _ om).trans HZ.1),kr⟩,?_⟩;intro W3 hP3 hq3))
 exact bodyPost_ret (v:= .tuple #[.agg (posC (V.start v)),.bool true]) (zab results41 _ _ w.heap.size 31 _ (0,0) _ rfl hq3.heap underlying31 rfl (zr _)) rfl ⟨rfl,hP3.below (za (za HZ.2 hb1) hb2) (Nat.le_refl _)⟩
end
end Go.Proofs.YtbakeajgolhkgaaGreatDoor
