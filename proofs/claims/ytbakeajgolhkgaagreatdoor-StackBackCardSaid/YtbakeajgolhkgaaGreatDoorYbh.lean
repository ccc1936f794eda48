import Derived.Laws.IdiomStrings
import Derived.Lib.OthersKept
import Derived.Lib.RuneCount
import Derived.Test.YtbakeajgolhkgaaGreatDoorYbe
set_option maxRecDepth 100000
set_option maxHeartbeats 8000000
open Go.Lib (hid)
namespace Go.Proofs.YtbakeajgolhkgaaGreatDoor
open Go.Proofs.Tryz
section
open Go.RowKit Go.Sort
namespace G
def kinds(c:Nat→Int)(k:Int):BitVec 64:=bOr (S.of c 0 k) (S.of c 1 k)
def light:BitVec 64:=0x55aa55aa55aa55aa#64
def men6(c:Nat→Int):BitVec 64:=bAndn (S.all c) (kinds c 6)
def few(c:Nat→Int):Bool:=
 if bAndn (bAndn (men6 c) (kinds c 3)) (kinds c 2)≠0#64 then false
 else decide (B.count (men6 c)≤1)||(men6 c==kinds c 3&&(bAnd (men6 c) light==0#64||bAndn (men6 c) light==0#64))
def bare(c:Nat→Int):Bool:=S.all c==bOr (S.of c 0 6) (S.of c 1 6)&&(B.count (S.of c 0 6)==1&&B.count (S.of c 1 6)==1)
def material(c:Nat→Int):Bool:=if c 0=0∨c 0=1 then few c else if c 0=3∨c 0=5 then bare c else false
def stuck(c:Nat→Int):Int×Int:=
 if(list c).isEmpty=false then(0,0)else if c 0=4 then(1+c 78,8)else if K.check c (c 78)=true then(2-c 78,1)else(3,2)
def outcome(c:Nat→Int):Int×Int:=
 if¬(c 0<9∧c 78≤1)then(0,0)
 else if(won c).1≠0 then won c
 else if(stuck c).1≠0 then stuck c
 else if material c=true then(3,3)
 else if 150≤c 86 then(3,4)else(0,0)
end G
namespace Sq
def sq(s:Int):Bool:=decide (0≤s)&&decide (s<64)
def text(s:Nat):ByteArray:=⟨#[UInt8.ofNat (97+s % 8),UInt8.ofNat (49+s/8)]⟩
end Sq
theorem zdC(g:Nat)(s:Int)(w:World)(hc:w.cell? ⟨g,0,none⟩=some (.int .i64 s)):
  cR 379 #[.slice (some ⟨g,0,none⟩) 1 1] w (.bool (Sq.sq s)) fun w'=>w=w':=by
 unfold Sq.sq
 by_cases h:s<0
 ·have e1:decide (0≤s)=false:=by simp;omega
  rw [e1]
  go_enter func379,ntmps379
  go_wp2
  refine wp_loop_rounds 2 ?_
  rw [rounds_succ]
  go_wp2
  go_ret
  exact⟨rfl,rfl⟩
 ·have e1:decide (0≤s)=true:=by simp;omega
  have e0:decide (s<0)=false:=by simpa using h
  by_cases h2:64≤s
  ·have e2:decide (s<64)=false:=by simp;omega
   rw [e1,e2]
   go_enter func379,ntmps379
   go_wp2
   refine wp_loop_rounds 2 ?_
   rw [rounds_succ]
   go_wp2
   go_ret
   exact⟨rfl,rfl⟩
  ·have e2:decide (s<64)=true:=by simp;omega
   have e3:decide (64≤s)=false:=by simp;omega
   rw [e1,e2]
   clear h h2 e1 e2
   go_enter func379,ntmps379
   go_wp2
   refine wp_loop_rounds 2 ?_
   rw [rounds_succ]
   go_wp2
   rw [rounds_succ]
   go_wp2
   go_ret
   exact⟨rfl,rfl⟩
theorem zaW(s:Int)(b:Bool)(w:World)(T:TypeId)(h:Sq.sq s=b):
  Calls prog 379 #[.slice (some ⟨w.heap.size,0,none⟩) 1 1] (w.alloc (.cells #[.int .i64 s] T)) fun e w'=>e= .returned (.bool b)∧w.alloc (.cells #[.int .i64 s] T)=w':=by
 rw [←h]
 exact zdC _ s _ ((RowAt.new w #[.int .i64 s] T).cell 0)
theorem ze5(s:Nat)(w:World)(hs:s<64):cB 380 #[.int .i64 (s:Int)] w (.int .i64 ((s % 8:Nat):Int)):=by
 have hq:Sq.sq (s:Int)=true:=by unfold Sq.sq;simp;omega
 have h1:(s:Int).tmod 8=((s % 8:Nat):Int):=by rw [Int.tmod_eq_emod_of_nonneg om];omega
 have h2:IntKind.i64.wrap ((s % 8:Nat):Int)=((s % 8:Nat):Int):=by rw [IntKind.wrap_i64];omega
 have hb:Below w.heap.size w (w.alloc (.cells #[.int .i64 (s:Int)] 3)):=bA
 go_enter func380,ntmps380
 go_wp2_with (go_at_call 379;refine(zaW _ true _ _ hq).mono ?_;rintro e w' ⟨rfl,rfl⟩)
 go_ret
 exact⟨rfl,hb⟩
theorem zfk(s:Nat)(w:World)(hs:s<64):cB 381 #[.int .i64 (s:Int)] w (.int .i64 ((s/8:Nat):Int)):=by
 have hq:Sq.sq (s:Int)=true:=by unfold Sq.sq;simp;omega
 have h1:(s:Int).tdiv 8=((s/8:Nat):Int):=by rw [Int.tdiv_eq_ediv_of_nonneg om];omega
 have h2:IntKind.i64.wrap ((s/8:Nat):Int)=((s/8:Nat):Int):=by rw [IntKind.wrap_i64];omega
 have hb:Below w.heap.size w (w.alloc (.cells #[.int .i64 (s:Int)] 3)):=bA
 go_enter func381,ntmps381
 go_wp2_with (go_at_call 379;refine(zaW _ true _ _ hq).mono ?_;rintro e w' ⟨rfl,rfl⟩)
 go_ret
 exact⟨rfl,hb⟩
theorem two_bytes(x y:Nat)(W:World)(hx:x<256)(hy:y<256):(convert 219 9 (.slice (some ⟨W.heap.size,0,none⟩) 2 2)).run prog (W.alloc (.cells #[.int .u8 (x:Int),.int .u8 (y:Int)] 5))= .ok (.string ⟨#[UInt8.ofNat x,UInt8.ofNat y]⟩) (W.alloc (.cells #[.int .u8 (x:Int),.int .u8 (y:Int)] 5)):=by
 have h:=RowAt.new W #[.int .u8 (x:Int),.int .u8 (y:Int)] 5
 have ex:((UInt8.ofNat x).toNat:Int)=x:=by rw [UInt8.toNat_ofNat',Nat.mod_eq_of_lt om]
 have ey:((UInt8.ofNat y).toNat:Int)=y:=by rw [UInt8.toNat_ofNat',Nat.mod_eq_of_lt om]
 exact run_convert_bytes_back (P:=prog) (W.alloc (.cells #[.int .u8 (x:Int),.int .u8 (y:Int)] 5)) 219 9 5 ⟨W.heap.size,0,none⟩ 2 [UInt8.ofNat x,UInt8.ofNat y] underlying219 underlying5 underlying9 (fun j hj=>by
  match j,hj with
  |0,_=>rw [show((⟨W.heap.size,0,none⟩:Addr).add 0)=⟨W.heap.size,0,none⟩from rfl,h.cell 0];show some (Value.int .u8 (x:Int))=_;rw [←ex];rfl
  |1,_=>rw [show((⟨W.heap.size,0,none⟩:Addr).add 1)=⟨W.heap.size,1,none⟩from rfl,h.cell 1];show some (Value.int .u8 (y:Int))=_;rw [←ey];rfl
  |j+2,hj=>simp at hj;omega)
theorem zfb(s:Nat)(w:World)(hs:s<64):cB 373 #[.int .i64 (s:Int)] w (.string (Sq.text s)):=by
 have hq:Sq.sq (s:Int)=true:=by unfold Sq.sq;simp;omega
 have hb0:Below w.heap.size w (w.alloc (.cells #[.int .i64 (s:Int)] 3)):=bA
 have HF:=hid (fun W=>ze5 s W hs)
 have HR:=hid (fun W=>zfk s W hs)
 obtain⟨f,hf⟩:∃f,s % 8=f:=⟨_,rfl⟩
 obtain⟨r,hr⟩:∃r,s/8=r:=⟨_,rfl⟩
 have hf8:f<8:=by omega
 have hr8:r<8:=by omega
 have HT:Hid (Sq.text s=⟨#[UInt8.ofNat (97+f),UInt8.ofNat (49+r)]⟩):=hid (by unfold Sq.text;rw [hf,hr])
 rw [hf]at HF
 rw [hr]at HR
 clear hf hr
 obtain⟨x,hx⟩:∃x,97+f=x:=⟨_,rfl⟩
 obtain⟨y,hy⟩:∃y,49+r=y:=⟨_,rfl⟩
 have w1:IntKind.i64.wrap (97+(f:Int))=(x:Int):=by rw [IntKind.wrap_i64];omega
 have w2:IntKind.i64.wrap (49+(r:Int))=(y:Int):=by rw [IntKind.wrap_i64];omega
 have w3:IntKind.u8.wrap (x:Int)=(x:Int):=by unfold IntKind.wrap;simp [IntKind.bits,IntKind.signed];omega
 have w4:IntKind.u8.wrap (y:Int)=(y:Int):=by unfold IntKind.wrap;simp [IntKind.bits,IntKind.signed];omega
 have hX:x<256:=by omega
 have hY:y<256:=by omega
 have hcv:∀W:World,(convert 219 9 (.slice (some ⟨W.heap.size,0,none⟩) 2 2)).run prog (W.alloc (.cells #[.int .u8 (x:Int),.int .u8 (y:Int)] 5))= .ok (.string ⟨#[UInt8.ofNat x,UInt8.ofNat y]⟩) (W.alloc (.cells #[.int .u8 (x:Int),.int .u8 (y:Int)] 5)):=fun W=>two_bytes x y W hX hY
 rw [hx,hy]at HT
 clear hx hy hf8 hr8 hX hY
 go_enter func373,ntmps373
 go_wp2_with (first
  |(go_at_call 379;refine(zaW _ true _ _ hq).mono ?_;rintro e w' ⟨rfl,rfl⟩)
  |(go_at_call 380;refine(HF _).mono ?_;rintro e w1 ⟨rfl,hb⟩;replace hb0:=za hb0 hb;clear hb)
  |(go_at_call 381;refine(HR _).mono ?_;rintro e w1 ⟨rfl,hb⟩;replace hb0:=za hb0 hb;clear hb))
 go_ret
 exact⟨zim HT.symm,hb0.alloc hb0.size _⟩
end
section
open Go.RowKit Go.Sort
attribute [local go_sem] Oper.semAt_some
def N.kn(c:Nat→Int):Bool:=decide (c 0<9)&&decide (c 78≤1)
theorem zd3(c:Nat→Int)(w:World):
  cB 254 #[.agg (posC c)] w (.bool (N.kn c)):=by
 have hp:=PosAt.new w c
 have c0:=hp.cell (i:=0) dc
 have c78:=hp.cell (i:=78) dc
 rw [show pk 0= .u8 from rfl]at c0
 rw [show pk 78= .u8 from rfl]at c78
 have hb0:Below w.heap.size w (w.alloc (.cells (posC c) 31)):=bA
 have HE:=hid (show N.kn c=(decide (c 0<9)&&decide (c 78≤1))from rfl)
 cases h0:decide (c 0<9)
 ·have E:=hid (show N.kn c=false by rw [HE.out,h0];rfl)
  go_enter func254,ntmps254
  go_wp2
  go_ret
  exact⟨by rw [E.out];rfl,hb0⟩
 ·have E:=hid (show N.kn c=decide (c 78≤1) by rw [HE.out,h0];rfl)
  go_enter func254,ntmps254
  go_wp2
  go_ret
  exact⟨by rw [E.out];rfl,hb0⟩
theorem zZ(c:Nat→Int)(w:World)(h:0≤c 78∧c 78≤1):
  cB 358 #[.agg (posC c)] w (.int .i8 (N.home c)):=by
 have hp:=PosAt.new w c
 have c78:=hp.cell (i:=78) dc
 rw [show pk 78= .u8 from rfl]at c78
 have hb0:Below w.heap.size w (w.alloc (.cells (posC c) 31)):=bA
 rcases(show c 78=0∨c 78=1 by omega)with h|h
 ·have E:=hid (show((N.home c:Nat):Int)=0 by unfold N.home;rw [h];rfl)
  rw [h]at c78
  go_enter func358,ntmps358
  go_wp2
  go_ret
  exact⟨by rw [E.out];rfl,hb0⟩
 ·have E:=hid (show((N.home c:Nat):Int)=56 by unfold N.home;rw [h];rfl)
  rw [h]at c78
  go_enter func358,ntmps358
  go_wp2
  go_ret
  exact⟨by rw [E.out];rfl,hb0⟩
def N.sq(s:Int):Bool:=decide (0≤s)&&decide (s<64)
theorem zaa(s:Nat)(w:World)(hs:s<64):cB 357 #[.int .i8 (s:Int)] w (.string (N.tx s)):=by
 have HT:Hid (∀W,cB 373 #[.int .i64 (s:Int)] W (.string (N.tx s))):=hid (fun W=>zfb s W hs)
 have w1:IntKind.i64.wrap (s:Int)=(s:Int):=by rw [IntKind.wrap_i64];omega
 go_enter func357,ntmps357
 go_wp2_with (go_at_call 373;(with_reducible refine(HT.out _).mono ?_);rintro e w1 ⟨rfl,hb⟩)
 go_ret
 exact⟨rfl,hb⟩
end
section
open Go.RowKit Go.ChangeShapes Go.WideShapes
def movC(f g a b:Int)(ca:Bool):Array Value:= #[.int .i8 f,.int .i8 g,.int .u8 a,.int .u8 b,.bool ca]
def MovOk(f g a b:Int):Prop:=(-128≤f∧f≤127)∧(-128≤g∧g≤127)∧(0≤a∧a≤255)∧(0≤b∧b≤255)
theorem movFlat:flat prog 5 47=some [some .i8,some .i8,some .u8,some .u8,none]:=of_decide_eq_true kr
section
variable {H:Type} {enc:TypeId×Value→H} {w w':World} {base base':Nat} {spare spare':Nat→Bool} {held held':Bool}
theorem ziN{cs:Array Value}(h:cs.size=5):∃a b c d e,cs= #[a,b,c,d,e]:=by
 refine⟨cs[0],cs[1],cs[2],cs[3],cs[4],?_⟩
 apply Array.ext
 ·simp [h]
 ·intro i h1 h2
  match i,h1 with
  |0,_|1,_|2,_|3,_|4,_=>rfl
  |n+5,hn=>omega
theorem open_move{r:Reach}{b0:Nat}{v:Value}{d:DataW H}{p:List MemPlace}(hv:Value.okWide prog w r b0 47 v)(h:DataW.Trod enc prog w base spare held 47 v d p):
  ∃f g a b ca,v= .agg (movC f g a b ca)∧p=[]∧MovOk f g a b:=by
 have hs:∃cs,v= .agg cs:=(Go.WideShapes.okWide_struct (t:=47) (P:=prog) underlying47 hv).imp fun cs h=>h.1
 obtain⟨cs,rfl,rfl,hl,hc⟩:=zeC movFlat hs h
 obtain⟨v0,v1,v2,v3,v4,rfl⟩:=ziN (by simpa using hl)
 obtain⟨u,hu,n0,rfl,w0⟩:=hc 0 _ rfl
 obtain rfl:v0= .int .i8 n0:=by simpa using hu
 obtain⟨u,hu,n1,rfl,w1⟩:=hc 1 _ rfl
 obtain rfl:v1= .int .i8 n1:=by simpa using hu
 obtain⟨u,hu,n2,rfl,w2⟩:=hc 2 _ rfl
 obtain rfl:v2= .int .u8 n2:=by simpa using hu
 obtain⟨u,hu,n3,rfl,w3⟩:=hc 3 _ rfl
 obtain rfl:v3= .int .u8 n3:=by simpa using hu
 obtain⟨u,hu,n4,rfl⟩:=hc 4 _ rfl
 obtain rfl:v4= .bool n4:=by simpa using hu
 exact⟨n0,n1,n2,n3,n4,rfl,rfl,bounds_i8 w0,bounds_i8 w1,bounds_u8 w2,bounds_u8 w3⟩
theorem shut_move{v:Value}{d:DataW H}{p:List MemPlace}(h:DataW.Trod enc prog w base spare held 47 v d p):DataW.Trod enc prog w' base' spare' held' 47 v d p:=by
 obtain⟨fuel,h⟩:=h
 exact⟨fuel,by rw [←zdu 5 _ _ movFlat fuel];exact h⟩
end
section
variable {H:Type} {enc:TypeId×Value→H} {w w':World} {base base':Nat} {spare spare':Nat→Bool} {held held':Bool}
end
end
section
open Go.RowKit Go.Sort
attribute [local go_sem] Oper.semAt_some
theorem zF{K:Act→Prop}{a:Act}{o:Oper}{w:World}(x:Operand)(ho:o.op= .load 31 x)
  (h:∃(g:Nat) (c:Nat→Int),a.eval x= .pointer (some ⟨g,0,none⟩)∧PosAt w g c∧K (a.put o.dst (.agg (posC c)))):o.quiet prog a (fun w'=>∃p:Regrown,w'=grow (redrawn w p.d) p.os) K:=by
 obtain⟨g,c,hx,hp,hk⟩:=h
 exact zu x ho c ⟨g,_,_,hx,fun w' ⟨p,e⟩=>by rw [e,zG _ _ _ _ hp.lt];exact hp.heap⟩ hk
theorem zv{P:Program}{fn:Func}{p u:Tmp}{ty:TypeId}(h:fn.results= #[.cell p ty,.tmp u])(tmps:Array Value)(w:World)(g:Nat)(t:TypeId)(cs:Array Value)(fr:Nat×Nat)(d:TypeDesc)
  (hp:tmps.getD p undef= .pointer (some ⟨g,0,none⟩)) (hg:w.heap[g]? =some (.cells cs t fr))
  (hu:P.underlying ty=some d) (hd:(match d with| .struct _| .array _ _=>true|_=>false)=true) (hi:(P.info? ty).map (·.size)=some cs.size):
  (results fn tmps).run P w= .ok (.tuple #[.agg cs,tmps.getD u undef]) w:=by
 rw [Go.results_cell_tmp h,hp]
 simp [asAddr,run_loadVar_row w g t ty cs fr d hg hu hd hi,Result.andThen]
structure MvRes (w:World) (g:Nat) (c:Nat→Int) (W:World):Prop where
 p:PosAt W g c
 res:RowAt W (g+1) 47 #[.int .i8 0,.int .i8 0,.int .u8 0,.int .u8 0,.bool false]
 below:Below g w W
theorem MvRes.next{w W W':World}{g:Nat}{c:Nat→Int}(h:MvRes w g c W)(hb:Below W.heap.size W W'):MvRes w g c W':=
 ⟨h.p.below hb,h.res.below hb,h.below.trans (hb.mono (Nat.le_of_lt h.p.lt))⟩
theorem MvRes.other{w W W':World}{g e:Nat}{c:Nat→Int}(h:MvRes w g c W)(hP:Put e W W')(he:g+1<e):MvRes w g c W':=
 ⟨hP.pos h.p om,hP.row h.res om,hP.below h.below om⟩
theorem info_mvB(f g x y:Int)(z:Bool):(prog.info? 47).map (·.size)=some (movC f g x y z).size:=by kernel_rfl
theorem one_mvB(f g x y:Int)(z:Bool):(movC f g x y z).all (·.oneCell')=true:=by kernel_rfl
theorem zd8(ev:Operand→Value)(o:Oper)(x y:Operand)(t:TypeId)(m n:Mv)(w:World)(ho:o.op= .binOp .eql 47 x y t)
  (hx:ev x= .agg #[.int .i8 m.1,.int .i8 m.2.1,.int .u8 m.2.2.1,.int .u8 m.2.2.2.1,.bool m.2.2.2.2]) (hy:ev y= .agg #[.int .i8 n.1,.int .i8 n.2.1,.int .u8 n.2.2.1,.int .u8 n.2.2.2.1,.bool n.2.2.2.2]):
  (execOp ev o).run prog w= .ok (.value (.bool (m==n))) w:=by
 obtain⟨f,g,p,d,c⟩:=m
 obtain⟨f',g',p',d',c'⟩:=n
 unfold execOp
 simp only [ho,hx,hy]
 by_cases h1:f=f'
 ·subst h1
  by_cases h2:g=g'
  ·subst h2
   by_cases h3:p=p'
   ·subst h3
    by_cases h4:d=d'
    ·subst h4
     by_cases h5:c=c'
     ·subst h5
      simp [go_sem]
     ·simp [go_sem,h5]
    ·simp [go_sem,h4]
   ·simp [go_sem,h3]
  ·simp [go_sem,h2]
 ·simp [go_sem,h1]
theorem zaq{ops:Array Oper}{rest:List Oper}{o:Oper}{a:Act}{w:World}{Q:Exit→Act→World→Prop}(hw:Region.wanted o (yielded ops a.tmps)=true)(x y:Operand)(t:TypeId)(ho:o.op= .binOp .eql 47 x y t)
  (h:∃m n:Mv,a.eval x= .agg #[.int .i8 m.1,.int .i8 m.2.1,.int .u8 m.2.2.1,.int .u8 m.2.2.2.1,.bool m.2.2.2.2]∧a.eval y= .agg #[.int .i8 n.1,.int .i8 n.2.1,.int .u8 n.2.2.1,.int .u8 n.2.2.2.1,.bool n.2.2.2.2]∧wpList prog ops Q rest (a.put o.dst (.bool (m==n))) w):wpList prog ops Q (o::rest) a w:=by
 obtain⟨m,n,hx,hy,h⟩:=h
 refine wpList_step fun K hK=> ?_
 rw [if_pos hw]
 unfold Oper.wp
 simp only [zd8 a.eval o x y t m n w ho hx hy]
 exact hK _ _ h
theorem zht(ev:Operand→Value)(o:Oper)(x y:Operand)(t:TypeId)(s u:ByteArray)(w:World)(ho:o.op= .binOp .add 9 x y t)(hx:ev x= .string s)(hy:ev y= .string u)(hl:s.size+u.size≤9223372036854775807):
  (execOp ev o).run prog w= .ok (.value (.string (s++u))) w:=by
 unfold execOp
 simp only [ho,hx,hy]
 simp [go_sem]
 exact hl
theorem zbu{S:World→Prop}{K:Act→Prop}{a:Act}{o:Oper}(x y:Operand)(t:TypeId)(ho:o.op= .binOp .add 9 x y t)
  (h:∃s u:ByteArray,a.eval x= .string s∧a.eval y= .string u∧s.size+u.size≤9223372036854775807∧K (a.put o.dst (.string (s++u)))):o.quiet prog a S K:=by
 obtain⟨s,u,hx,hy,hl,hk⟩:=h
 refine⟨_,fun w' _=> ?_,hk⟩
 unfold Oper.quietAt
 simp only [zht a.eval o x y t s u w' ho hx hy hl]
 exact⟨rfl,rfl⟩
theorem zae(w:World):cB 329 #[] w (.agg #[.int .i8 6,.int .i8 2]):=by
 have hb0:Below w.heap.size w (w.alloc (.cells #[.int .i8 0,.int .i8 0] 27)):=bA
 go_enter func329,ntmps329
 go_wp2_with ((with_reducible refine zb rfl 27 _ _ rfl ?_);refine⟨w.heap.size,27,#[.int .i8 6,.int .i8 2],rfl,rfl,⟨_,heap_alloc_new _ _,kr⟩,kr,kr,?_⟩;intro W3 hP hq)
 exact bodyPost_ret (v:= .agg #[.int .i8 6,.int .i8 2]) (results_cell_row results329 _ _ w.heap.size 27 _ (0,0) _ rfl hq.heap underlying27 rfl kr) rfl ⟨rfl,hP.below hb0 (Nat.le_refl _)⟩
structure PMv (w:World) (g:Nat) (c:Nat→Int) (m:Array Value) (W:World):Prop where
 p:PosAt W g c
 m:RowAt W (g+1) 47 m
 below:Below g w W
theorem PMv.next{w W W':World}{g:Nat}{c:Nat→Int}{m:Array Value}(h:PMv w g c m W)(hb:Below W.heap.size W W'):PMv w g c m W':=
 ⟨h.p.below hb,h.m.below hb,h.below.trans (hb.mono (Nat.le_of_lt h.p.lt))⟩
theorem PMv.start(w:World)(c:Nat→Int)(m:Array Value):PMv w w.heap.size c m ((w.alloc (.cells (posC c) 31)).alloc (.cells m 47)):=
 ⟨(PosAt.new w c).alloc _,by have:=RowAt.new (w.alloc (.cells (posC c) 31)) m 47;rwa [World.size_alloc]at this,bA.alloc sp _⟩
end
section
open Go.RowKit Go.Sort
theorem size_intS:(prog.info? 3).map (·.size)=some 1:=by kernel_rfl
namespace Sq
def isOf(f r:Int):Bool:=decide ((0≤f∧f<8)∧0≤r∧r<8)
def ofV(f r:Int):Value:=if isOf f r then .tuple #[.int .i64 (8*r+f),.bool true]else .tuple #[.int .i64 0,.bool false]
theorem dec_big(s:ByteArray)(i:Nat)(h:128≤(s.get! i).toNat):128≤(Utf8.decode s i).1:=by
 unfold Utf8.decode
 simp only [Nat.add_zero]
 rw [if_neg om]
 repeat' split
 all_goals(try(rename_i h2;simp only [Bool.and_eq_true,decide_eq_true_eq,ge_iff_le]at h2))
 all_goals(try simp only [Utf8.runeError])
 all_goals omega
theorem dec_le(s:ByteArray)(i:Nat):(Utf8.decode s i).1≤5000000:=by
 unfold Utf8.decode
 simp only [Nat.add_zero]
 repeat' split
 all_goals(try simp only [Utf8.runeError])
 all_goals omega
theorem dec_wd(s:ByteArray)(i:Nat):1≤(Utf8.decode s i).2∧(Utf8.decode s i).2≤4:=by
 unfold Utf8.decode
 simp only [Nat.add_zero]
 repeat' split
 all_goals(first|omega|(constructor<;>decide))
theorem dec_small(s:ByteArray)(i:Nat)(h:(s.get! i).toNat<128):Utf8.decode s i=((s.get! i).toNat,1):=by
 unfold Utf8.decode
 simp only [Nat.add_zero]
 rw [if_pos om]
theorem dec_last(s:ByteArray)(i:Nat)(hi:i+1=s.size)(h:128≤(s.get! i).toNat):Utf8.decode s i=(65533,1):=by
 unfold Utf8.decode
 simp only [Nat.add_zero]
 rw [if_neg om]
 have e:(decide (i+1<s.size))=false:=by simp;omega
 simp [e,Utf8.runeError]
end Sq
theorem zhf(f r:Int)(w:World)(hf: -10000000≤f∧f≤10000000)(hr: -10000000≤r∧r≤10000000):cR 361 #[.int .i64 f,.int .i64 r] w (Sq.ofV f r) fun w'=>w=w':=by
 have h1:IntKind.i64.wrap (8*r)=8*r:=by rw [IntKind.wrap_i64];omega
 have h2:IntKind.i64.wrap (8*r+f)=8*r+f:=by rw [IntKind.wrap_i64];omega
 go_enter func361,ntmps361
 go_wp2
 all_goals
  go_ret2
  refine⟨?_,rfl⟩
  unfold Sq.ofV Sq.isOf
  first|(rw [if_pos (by simp;omega)];done)|(rw [if_neg (by simp;omega)];done)|(rw [if_pos (by simp;omega)];rfl)|(rw [if_neg (by simp;omega)];rfl)
namespace Sq
def Parsed(t:ByteArray)(n:Int)(ok:Bool):Prop:=(ok=true∧∃s:Nat,s<64∧n=(s:Int)∧t=text s)∨(ok=false∧n=0∧∀s,s<64→t≠text s)
def Ends(t:ByteArray)(l0 l1:Int):Prop:=
 ((t.get! 0).toNat<128∧l0=((t.get! 0).toNat:Int)-97∧(((t.get! 1).toNat<128∧l1=((t.get! 1).toNat:Int)-49)∨(128≤(t.get! 1).toNat∧l1=65484)))∨(128≤(t.get! 0).toNat∧31≤l0)
theorem two_of(t:ByteArray)(h2:t.size=2):∃a b,t=⟨#[a,b]⟩:=by
 obtain⟨⟨l⟩⟩:=t
 match l,h2 with
 |[a,b],_=>exact⟨a,b,rfl⟩
theorem zgL(a b:UInt8):ByteArray.get! ⟨#[a,b]⟩ 0=a∧ByteArray.get! ⟨#[a,b]⟩ 1=b:=⟨rfl,rfl⟩
theorem parsed_of(t:ByteArray)(l0 l1:Int)(h2:t.size=2)(h:Ends t l0 l1):∃n ok,ofV l0 l1= .tuple #[.int .i64 n,.bool ok]∧Parsed t n ok:=by
 obtain⟨a,b,rfl⟩:=two_of t h2
 unfold Ends at h
 rw [(zgL a b).1,(zgL a b).2]at h
 unfold ofV
 cases hi:isOf l0 l1 with
 |true=>
  unfold isOf at hi
  simp only [decide_eq_true_eq]at hi
  refine⟨8*l1+l0,true,rfl,.inl ⟨rfl,(8*l1+l0).toNat,by omega,by omega,?_⟩⟩
  have ha:97+(8*l1+l0).toNat % 8=a.toNat:=by omega
  have hb:49+(8*l1+l0).toNat/8=b.toNat:=by omega
  unfold text
  rw [ha,hb,UInt8.ofNat_toNat,UInt8.ofNat_toNat]
 |false=>
  refine⟨0,false,rfl,.inr ⟨rfl,rfl,fun s hs e=> ?_⟩⟩
  unfold text at e
  injection e with e
  have e1:a=UInt8.ofNat (97+s % 8):=by have:=congrArg (·[0]?) e;simpa using this
  have e2:b=UInt8.ofNat (49+s/8):=by have:=congrArg (·[1]?) e;simpa using this
  have ha:a.toNat=97+s % 8:=by rw [e1,UInt8.toNat_ofNat'];omega
  have hb:b.toNat=49+s/8:=by rw [e2,UInt8.toNat_ofNat'];omega
  unfold isOf at hi
  simp only [decide_eq_false_iff_not]at hi
  omega
end Sq
theorem zet(w:World):(Instr.index 236 (.agg #[.int .i64 97,.int .i64 49]) (.int .i64 0)).run prog w= .ok (.int .i64 97) w:=by kernel_rfl
theorem zex(w:World):(Instr.index 236 (.agg #[.int .i64 97,.int .i64 49]) (.int .i64 1)).run prog w= .ok (.int .i64 49) w:=by kernel_rfl
theorem zc0{P:Program}{ops:Array Oper}{rest:List Oper}{o:Oper}{a:Act}{w:World}{Q:Exit→Act→World→Prop}(hgd:o.guard=none)(T:TypeId)(x y:Operand)(ho:o.op= .index T x y){vx vy v:Value}(hx:a.eval x=vx)(hy:a.eval y=vy)
  (hr:∀w,(Instr.index T vx vy).run P w= .ok v w) (h:wpList P ops Q rest (a.put o.dst v) w):wpList P ops Q (o::rest) a w:=by
 refine wpList_plain hgd fun _ hK=> ?_
 unfold Oper.wp execOp
 simp only [ho,hx,hy,Sem.run_bind,hr,Result.andThen_ok,Sem.run_pure]
 exact hK _ _ h
theorem zem(t:ByteArray)(w:World):Calls prog 332 #[.string t] w fun e w'=>(∃n ok,e= .returned (.tuple #[.int .i64 n,.bool ok])∧Sq.Parsed t n ok)∧Below w.heap.size w w':=by
 by_cases h2:t.size=2
 ·have hsI:((t.size:Int) !=2)=false:=by rw [h2];rfl
  go_enter func332,ntmps332
  go_wp2
  have hsz:(w.alloc (Obj.cells #[Value.int IntKind.i64 0,Value.int IntKind.i64 0] 236)).heap.size=w.heap.size+1:=by show(w.heap.push _).size=_;simp
  obtain⟨W0,hW0⟩:∃W0,((w.alloc (Obj.cells #[Value.int IntKind.i64 0,Value.int IntKind.i64 0] 236)).iter t 0)=W0:=⟨_,rfl⟩
  have hF:W0.heap[w.heap.size+1]? =some (.stringIter t 0)∧RowAt W0 w.heap.size 236 #[.int .i64 0,.int .i64 0]∧Below w.heap.size w W0:=by
   rw [←hW0]
   have h1:=World.iter_heap (w.alloc (Obj.cells #[Value.int IntKind.i64 0,Value.int IntKind.i64 0] 236)) t 0
   rw [hsz]at h1
   exact⟨h1,(RowAt.new w _ _).alloc _,bA.alloc (by rw [hsz];omega) _⟩
  rw [hW0]
  clear hW0 hsz
  have H0:=hid hF
  have H2:=hid h2
  clear hF h2 hsI
  go_loopw [] (fun wr=>∃(pos:Nat) (l0 l1:Int),wr.heap[w.heap.size+1]? =some (.stringIter t pos)∧RowAt wr w.heap.size 236 #[.int .i64 l0,.int .i64 l1]∧Below w.heap.size w wr∧(-10000000≤l0∧l0≤10000000)∧(-10000000≤l1∧l1≤10000000)∧
    Hid ((pos=0∧l0=0∧l1=0)∨(pos=1∧(((t.get! 0).toNat<128∧l0=((t.get! 0).toNat:Int)-97)∨(128≤(t.get! 0).toNat∧31≤l0))∧l1=0)∨(2≤pos∧Sq.Ends t l0 l1))) (fun wr=>10-World.iterPos wr (w.heap.size+1))
  case atStart=>exact⟨0,0,0,H0.1,H0.2.1,H0.2.2,by omega,by omega,hid (.inl ⟨rfl,rfl,rfl⟩)⟩
  case round=>
   obtain⟨pos,l0,l1,hit,hR,hbr,hl0,hl1,HS⟩:=hrel
   have hls:=hR.lt
   rcases HS.out with⟨rfl,rfl,rfl⟩|⟨rfl,hA,rfl⟩|⟨hp,hE⟩
   ·have hp2:0<t.size:=by rw [H2.out];omega
    have hnx0:∀ty,(Instr.next (.pointer (some ⟨w.heap.size+1,0,none⟩)) true ty).run prog wr=_:=fun ty=>Lib.run_next_any_at wr (w.heap.size+1) t 0 ty hit hp2
    have hit2:=Lib.iterAt_heap wr (w.heap.size+1) t 0 (0+(Utf8.decode t 0).2) hit
    have hR2:RowAt (wr.iterAt (w.heap.size+1) t (0+(Utf8.decode t 0).2)) w.heap.size _ _:=⟨(Lib.iterAt_other wr (w.heap.size+1) w.heap.size t _ om).trans hR.heap⟩
    have hb2:=Lib.below_iterAt hbr (k:=w.heap.size+1) om t (0+(Utf8.decode t 0).2)
    have hle:=Sq.dec_le t 0
    have hwd:=Sq.dec_wd t 0
    have hbig:=Sq.dec_big t 0
    have hsm:=Sq.dec_small t 0
    skip
    obtain⟨r,hr⟩:∃r,(Utf8.decode t 0).1=r:=⟨_,rfl⟩
    obtain⟨d,hd⟩:∃d,(Utf8.decode t 0).2=d:=⟨_,rfl⟩
    have hst:(0+d=0∧(r:Int)-97=0∧(0:Int)=0)∨(0+d=1∧(((t.get! 0).toNat<128∧(r:Int)-97=((t.get! 0).toNat:Int)-97)∨(128≤(t.get! 0).toNat∧31≤(r:Int)-97))∧(0:Int)=0)∨(2≤0+d∧Sq.Ends t ((r:Int)-97) 0):=by
     by_cases h8:(t.get! 0).toNat<128
     ·have e:=hsm h8
      rw [←hr,←hd,e]
      exact .inr (.inl ⟨rfl,.inl ⟨h8,rfl⟩,rfl⟩)
     ·have h9:=hbig om
      rw [hr]at h9
      rw [hd]at hwd
      by_cases h1:d=1
      ·exact .inr (.inl ⟨by omega,.inr ⟨by omega,by omega⟩,rfl⟩)
      ·exact .inr (.inr ⟨by omega,.inr ⟨by omega,by omega⟩⟩)
    have Hst:=hid hst
    rw [hr]at hnx0 hle
    rw [hd]at hnx0 hit2 hR2 hb2 hwd
    obtain⟨W2,hW2⟩:∃W2,wr.iterAt (w.heap.size+1) t (0+d)=W2:=⟨_,rfl⟩
    rw [hW2]at hit2 hR2 hb2
    have hnx:∀ty,(Instr.next (.pointer (some ⟨w.heap.size+1,0,none⟩)) true ty).run prog wr= .ok (.tuple #[.bool true,.int .i64 0,.int .i32 (r:Int)]) W2:=fun ty=>by rw [hnx0 ty,hW2];rfl
    have hwi:IntKind.i64.wrap (r:Int)=(r:Int):=by rw [IntKind.wrap_i64];omega
    have hws:IntKind.i64.wrap ((r:Int)-97)=(r:Int)-97:=by rw [IntKind.wrap_i64];omega
    have Hit:=hid hit
    clear hst hr hd hW2 hnx0 hbig hsm hit hR hbr hp2
    go_wp2_with (first
     |(refine zc0 rfl 236 _ _ rfl rfl rfl zet ?_)
     |(refine zc0 rfl 236 _ _ rfl rfl rfl zex ?_)
     |((with_reducible refine zY rfl 3 _ _ rfl ?_);refine⟨_,_,_,_,.int .i64 ((r:Int)-97),rfl,rfl,rfl,hR2,sp,size_intS,?_⟩;intro V hV hR3;have HZ:=hid (show _∧RowAt V w.heap.size 236 #[.int .i64 ((r:Int)-97),.int .i64 0]∧_ from⟨(hV.block (w.heap.size+1) om).trans hit2,hR3,hV.below hb2 (Nat.le_refl _)⟩);clear hV hR2 hit2 hb2 hR3))
    refine⟨⟨0+d,HZ.1,_,_,HZ.2.1,HZ.2.2,by omega,by omega,hid (by rcases Hst.out with⟨a,b,_⟩|⟨a,b,_⟩|h;exact .inl ⟨a,b,rfl⟩;exact .inr (.inl ⟨a,b,rfl⟩);exact .inr (.inr h))⟩,?_⟩
    simp only [World.iterPos,HZ.out.1,Hit.out]
    omega
   ·have hp2:1<t.size:=by rw [H2.out];omega
    have hnx0:∀ty,(Instr.next (.pointer (some ⟨w.heap.size+1,0,none⟩)) true ty).run prog wr=_:=fun ty=>Lib.run_next_any_at wr (w.heap.size+1) t 1 ty hit hp2
    have hit2:=Lib.iterAt_heap wr (w.heap.size+1) t 1 (1+(Utf8.decode t 1).2) hit
    have hR2:RowAt (wr.iterAt (w.heap.size+1) t (1+(Utf8.decode t 1).2)) w.heap.size _ _:=⟨(Lib.iterAt_other wr (w.heap.size+1) w.heap.size t _ om).trans hR.heap⟩
    have hb2:=Lib.below_iterAt hbr (k:=w.heap.size+1) om t (1+(Utf8.decode t 1).2)
    have hle:=Sq.dec_le t 1
    have hwd:=Sq.dec_wd t 1
    have hbig:=Sq.dec_big t 1
    have hsm:=Sq.dec_small t 1
    have hlast:=Sq.dec_last t 1 (by rw [H2.out])
    obtain⟨r,hr⟩:∃r,(Utf8.decode t 1).1=r:=⟨_,rfl⟩
    obtain⟨d,hd⟩:∃d,(Utf8.decode t 1).2=d:=⟨_,rfl⟩
    have hst:(1+d=0∧l0=0∧(r:Int)-49=0)∨(1+d=1∧(((t.get! 0).toNat<128∧l0=((t.get! 0).toNat:Int)-97)∨(128≤(t.get! 0).toNat∧31≤l0))∧(r:Int)-49=0)∨(2≤1+d∧Sq.Ends t l0 ((r:Int)-49)):=by
     rw [hd]at hwd
     refine .inr (.inr ⟨by omega,?_⟩)
     rcases hA with⟨h1,h3⟩|h1
     ·refine .inl ⟨h1,h3,?_⟩
      by_cases h8:(t.get! 1).toNat<128
      ·have e:=hsm h8
       exact .inl ⟨h8,by rw [←hr,e]⟩
      ·have e:=hlast om
       exact .inr ⟨by omega,by rw [←hr,e];rfl⟩
     ·exact .inr h1
    have Hst:=hid hst
    rw [hr]at hnx0 hle
    rw [hd]at hnx0 hit2 hR2 hb2 hwd
    obtain⟨W2,hW2⟩:∃W2,wr.iterAt (w.heap.size+1) t (1+d)=W2:=⟨_,rfl⟩
    rw [hW2]at hit2 hR2 hb2
    have hnx:∀ty,(Instr.next (.pointer (some ⟨w.heap.size+1,0,none⟩)) true ty).run prog wr= .ok (.tuple #[.bool true,.int .i64 1,.int .i32 (r:Int)]) W2:=fun ty=>by rw [hnx0 ty,hW2];rfl
    have hwi:IntKind.i64.wrap (r:Int)=(r:Int):=by rw [IntKind.wrap_i64];omega
    have hws:IntKind.i64.wrap ((r:Int)-49)=(r:Int)-49:=by rw [IntKind.wrap_i64];omega
    have Hit:=hid hit
    clear hst hr hd hW2 hnx0 hbig hsm hit hR hbr hp2 hA hlast
    go_wp2_with (first
     |(refine zc0 rfl 236 _ _ rfl rfl rfl zet ?_)
     |(refine zc0 rfl 236 _ _ rfl rfl rfl zex ?_)
     |((with_reducible refine zY rfl 3 _ _ rfl ?_);refine⟨_,_,_,_,.int .i64 ((r:Int)-49),rfl,rfl,rfl,hR2,sp,size_intS,?_⟩;intro V hV hR3;have HZ:=hid (show _∧RowAt V w.heap.size 236 #[.int .i64 l0,.int .i64 ((r:Int)-49)]∧_ from⟨(hV.block (w.heap.size+1) om).trans hit2,hR3,hV.below hb2 (Nat.le_refl _)⟩);clear hV hR2 hit2 hb2 hR3))
    refine⟨⟨1+d,HZ.1,_,_,HZ.2.1,HZ.2.2,by omega,by omega,hid Hst⟩,?_⟩
    simp only [World.iterPos,HZ.out.1,Hit.out]
    omega
   ·have hp2:¬pos<t.size:=by rw [H2.out];omega
    have hnx:∀ty,(Instr.next (.pointer (some ⟨w.heap.size+1,0,none⟩)) true ty).run prog wr=_:=fun ty=>Lib.run_next_end_at wr (w.heap.size+1) t pos ty hit hp2
    have HE:=hid (Sq.parsed_of t l0 l1 H2 hE)
    obtain⟨n,ok,hv,hP⟩:=HE.out
    have HO:=hid (zhf l0 l1 wr hl0 hl1)
    rw [hv]at HO
    have HP:=hid hP
    have c0:=hR.cell 0
    have c1:=hR.cell 1
    simp only [List.getElem?_toArray,List.getElem?_cons_zero,List.getElem?_cons_succ]at c0 c1
    clear hv hP hE hp hp2 hR
    go_wp2_with (go_at_call 361;refine HO.mono ?_;rintro e w' ⟨rfl,rfl⟩)
    go_ret2
    exact⟨⟨n,ok,rfl,HP⟩,hbr⟩
 ·have hsI:((t.size:Int) !=2)=true:=by simp;omega
  have hno:∀s,s<64→t≠Sq.text s:=fun s hs e=>h2 (by rw [e];rfl)
  have HN:=hid hno
  clear hno
  go_enter func332,ntmps332
  go_wp2
  go_ret2
  exact⟨⟨0,false,rfl,.inr ⟨rfl,rfl,HN⟩⟩,Below.refl _ _⟩
end
end Go.Proofs.YtbakeajgolhkgaaGreatDoor
