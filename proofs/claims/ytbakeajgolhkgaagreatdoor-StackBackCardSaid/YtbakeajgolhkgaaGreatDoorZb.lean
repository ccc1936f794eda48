import Derived.Shelf.Spec.TrailingZeros
import Derived.Deep.MidRow
import Derived.RangeFuncNested
import Derived.RangeFuncCalls
import Derived.RangeFuncBound
import Derived.OwnWalkIn
import Derived.TacticsInMore
import Derived.LoopIn
import Derived.Laws.CopyOwn
import Derived.Test.YtbakeajgolhkgaaGreatDoorZa
set_option maxRecDepth 100000
set_option maxHeartbeats 8000000
open Go.Lib (hid)
namespace Go.Proofs.YtbakeajgolhkgaaGreatDoor
open Go.Proofs.Tryz
section
open Go.RowKit Go.Sort
def Tb(w:World):Prop:=TabAt 0 Lib.deBruijn64tab w
theorem zi{w w':World}(h:Tb w)(hb:Below w.heap.size w w'):Tb w':=fun j hj=>
 (hb.cell (p:=⟨_,j,none⟩) (World.block_lt_of_cell? w _ (h j hj))).trans (h j hj)
theorem tz64_core(x k idx:Nat)(w:World)(hx0:((x:Int)==0)=false)
  (key:IntKind.u64.wrap (bits BinOp.and IntKind.u64 (x:Int) (IntKind.u64.wrap (-(x:Int)))*285870213051353865)/288230376151711744=(idx:Int))
  (hi:idx<64) (hk:k<64) (hcell:w.cell? ⟨0,idx,none⟩=some (.int .u8 k)):
  cR 284 #[.int .u64 x] w (.int .i64 k) fun w'=>w=w':=by
 go_enter func284,ntmps284
 go_wp2_with (simp only [key])
 go_ret
 exact⟨rfl,rfl⟩
def B.first(b:BitVec 64):Int:=if b=0#64 then-1 else(Lib.ctz 64 b.toNat:Int)
theorem zce(b:BitVec 64)(w:World)(hT:Tb w):
  cR 203 #[.int .u64 (U b)] w (.int .i64 (B.first b)) fun w'=>w=w':=by
 by_cases h:b=0#64
 ·have hq:(U b==0)=true:=by rw [U_zero];simpa using h
  have H:=hid h
  clear h
  go_enter func203,ntmps203
  go_wp2
  go_ret
  exact⟨ret_int (by unfold B.first;rw [if_pos H.out]),rfl⟩
 ·have hq:(U b==0)=false:=by rw [U_zero];simpa using h
  have hx0:b.toNat≠0:=fun e=>h (BitVec.eq_of_toNat_eq e)
  obtain⟨hlow,hk⟩:=Lib.lowest_bit 64 b.toNat hx0 b.isLt
  obtain⟨hi,htab⟩:=Lib.deBruijn64_at _ hk
  have hcell:=hT _ hi
  rw [htab]at hcell
  have C:=hid (tz64_core b.toNat _ _ w (by simp;omega) (tz64_key b.toNat _ b.isLt hx0 hlow) hi hk hcell)
  have H:=hid h
  clear h hlow htab hcell hi hk hx0
  go_enter func203,ntmps203
  go_wp2_with (go_at_call 284;refine C.mono ?_;rintro e w' ⟨rfl,rfl⟩)
  go_ret
  exact⟨ret_int (by unfold B.first;rw [if_neg H.out]),rfl⟩
def B.last(b:BitVec 64):Int:=(Lib.bitLen b.toNat:Int)-1
theorem U_bd2(b:BitVec 64):U b≤18446744073709551615:=by have:=bv_lt b;unfold U;omega
theorem B.last_bd(b:BitVec 64):(Lib.bitLen b.toNat)≤64:=Any.bitLen_le64 (U b) (U_bd b) (U_bd2 b)
theorem zho(b:BitVec 64)(w:World):
  cR 385 #[.int .u64 (U b)] w (.int .i64 (B.last b)) fun w'=>w=w':=by
 have hb:=Any.bitLen_le64 (U b) (U_bd b) (U_bd2 b)
 have H:=hid (show 63-(64-(Lib.bitLen (U b).toNat:Int))=B.last b by rw [show(U b).toNat=b.toNat from rfl];unfold B.last;omega)
 go_enter func385,ntmps385
 go_wp2_with (go_at_call 386;refine(bits_LeadingZeros64 _ _ (U_bd b) (U_bd2 b)).mono ?_;rintro e w' ⟨rfl,rfl⟩)
 go_ret
 exact⟨ret_int (by first|exact H|omega),rfl⟩
@[go_sem] theorem zjb (P : Program) (w : World) (a : Addr) (m : Mode) (f : Fn) (x y : Array Value) : (store a (.func f x y) m).run P w = stored P w a (.func f x y) m:=run_store P w a _ m rfl
namespace L
def wayF(d:Int):Nat:=if 3≤d∧d≤6 then 385 else 203
def near(d:Int)(b:BitVec 64):Int:=if 3≤d∧d≤6 then B.last b else B.first b
def dir(s:Int)(d:Nat)(occ:BitVec 64):BitVec 64:=
 if bAnd (R.ray s d) occ=0#64 then R.ray s d else bAndn (R.ray s d) (R.ray (near d (bAnd (R.ray s d) occ)) d)
def seen(s:Int)(occ:BitVec 64)(ds:List Nat):BitVec 64:=ds.foldl (fun b d=>bOr b (dir s d occ)) 0#64
def rook(s:Int)(occ:BitVec 64):BitVec 64:=seen s occ [0,2,4,6]
def bishop(s:Int)(occ:BitVec 64):BitVec 64:=seen s occ [1,3,5,7]
def queen(s:Int)(occ:BitVec 64):BitVec 64:=bOr (rook s occ) (bishop s occ)
end L
theorem zfU(d:Int)(w:World):
  cB 383 #[.int .i64 d] w (.agg #[.func (.func (L.wayF d)) #[] #[]]):=by
 by_cases h:3≤d∧d≤6
 ·have H:=hid h
  obtain⟨h0,h1⟩:=h
  go_enter func383,ntmps383
  go_wp2
  refine bodyPost_ret (v:= .agg #[.func (.func (L.wayF d)) #[] #[]]) ?_ rfl ⟨rfl,(Below.refl _ _).alloc (Nat.le_refl _) _⟩
  simp [results,results383,go_sem,L.wayF,if_pos H.out]
 ·have H:=hid h
  have h2:d<3∨6<d:=by omega
  clear h
  rcases h2 with h2|h2
  all_goals
   go_enter func383,ntmps383
   go_wp2
   refine bodyPost_ret (v:= .agg #[.func (.func (L.wayF d)) #[] #[]]) ?_ rfl ⟨rfl,(Below.refl _ _).alloc (Nat.le_refl _) _⟩
   simp [results,results383,go_sem,L.wayF,if_neg H.out]
theorem zes(d:Int)(f:Nat)(w:World)(h:L.wayF d=f):
  cB 383 #[.int .i64 d] w (.agg #[.func (.func f) #[] #[]]):=by
 subst h;exact zfU d w
theorem zi9(s:Int)(d:Nat)(occ:BitVec 64)(w:World)(hd:d<8)(hT:Tb w):
  cB 375 #[.int .i64 s,.int .i64 (d:Int),.int .u64 (U occ)] w (.int .u64 (U (L.dir s d occ))):=by
 have HT:=hid hT
 clear hT
 by_cases h:bAnd (R.ray s d) occ=0#64
 ·have hq:(U (bAnd (R.ray s d) occ)==0)=true:=by rw [U_zero];simpa using h
  have H:=hid h
  clear h
  go_enter func375,ntmps375
  go_wp2_with (go_at_call 382;refine(zb8 _ _ _ hd).mono ?_;rintro e w1 ⟨rfl,hb1⟩)
  go_ret
  exact⟨ret_int (by unfold L.dir;rw [if_pos H.out]),hb1⟩
 ·have hfd:∀(v:Value) (w:World),(Instr.field 359 (.agg #[v]) 0).run prog w= .ok v w:=fun _ _=>by kernel_rfl
  have hq:(U (bAnd (R.ray s d) occ)==0)=false:=by rw [U_zero];simpa using h
  have H:=hid h
  clear h
  by_cases hw:3≤(d:Int)∧(d:Int)≤6
  ·have Hn:=hid (show L.near d (bAnd (R.ray s d) occ)=B.last (bAnd (R.ray s d) occ) by unfold L.near;rw [if_pos hw])
   have Hw:=hid (show L.wayF d=385 by unfold L.wayF;rw [if_pos hw])
   clear hw
   go_enter func375,ntmps375
   go_wp2_with (first|(go_at_call 382;first|(have:=hb2;refine(zb8 _ _ _ hd).mono ?_;rintro e w3 ⟨rfl,hb3⟩)|(refine(zb8 _ _ _ hd).mono ?_;rintro e w1 ⟨rfl,hb1⟩))|(go_at_call 383;refine(zes _ _ _ Hw).mono ?_;rintro e w2 ⟨rfl,hb2⟩)|(go_at_call 385;refine(zho _ _).mono ?_;rintro e w4 ⟨rfl,rfl⟩))
   go_ret
   exact⟨ret_int (by unfold L.dir;rw [if_neg H.out,Hn.out]),za (za hb1 hb2) hb3⟩
  ·have Hn:=hid (show L.near d (bAnd (R.ray s d) occ)=B.first (bAnd (R.ray s d) occ) by unfold L.near;rw [if_neg hw])
   have Hw:=hid (show L.wayF d=203 by unfold L.wayF;rw [if_neg hw])
   clear hw
   go_enter func375,ntmps375
   go_wp2_with (first|(go_at_call 382;first|(have:=hb2;refine(zb8 _ _ _ hd).mono ?_;rintro e w3 ⟨rfl,hb3⟩)|(refine(zb8 _ _ _ hd).mono ?_;rintro e w1 ⟨rfl,hb1⟩))|(go_at_call 383;refine(zes _ _ _ Hw).mono ?_;rintro e w2 ⟨rfl,hb2⟩)|(go_at_call 203;refine(zce _ _ (zi HT (za hb1 hb2))).mono ?_;rintro e w4 ⟨rfl,rfl⟩))
   go_ret
   exact⟨ret_int (by unfold L.dir;rw [if_neg H.out,Hn.out]),za (za hb1 hb2) hb3⟩
theorem zeG(s:Int)(occ:BitVec 64)(b n:Nat)(ds:List Nat)(w:World)(hT:Tb w)(hn:ds.length=n)(hn2:n≤8)(hds:∀d∈ds,d<8)(hb:b<w.heap.size)(hc:∀(j:Nat) d,ds[j]? =some d→w.cell? ⟨b,j,none⟩=some (.int .i64 (d:Int))):
  cB 364 #[.int .i64 s,.int .u64 (U occ),.slice (some ⟨b,0,none⟩) n n] w (.int .u64 (U (L.seen s occ ds))):=by
 have Hc:=hid hc
 have Hn:=hid hn
 have Hd:=hid hds
 have HT:=hid hT
 clear hc hn hds hT
 go_enter func364,ntmps364
 go_wp2
 go_loopw [7,12] (fun v i wr=>∃k:Nat,k≤n∧i= .int .i64 (k:Int)∧v= .int .u64 (U (L.seen s occ (ds.take k)))∧Below w.heap.size w wr) (fun _ i _=>n-(intOf i).toNat)
 case atStart=>exact⟨0,Nat.zero_le _,rfl,by simp [L.seen];rfl,Below.refl _ _⟩
 case round=>
  obtain⟨k,hk,rfl,rfl,hbr⟩:=hrel
  by_cases hlt:k<n
  ·obtain⟨d,hd⟩:∃d,ds[k]? =some d:=⟨_,List.getElem?_eq_getElem (by have:=Hn.out;omega)⟩
   have hcell:wr.cell? ⟨b,k,none⟩=some (.int .i64 (d:Int)):=(hbr.cell (p:=⟨b,k,none⟩) hb).trans (Hc k d hd)
   have hd8:d<8:=Hd d (List.mem_of_getElem? hd)
   have Hs:Hid (L.seen s occ (ds.take (k+1))=bOr (L.seen s occ (ds.take k)) (L.dir s d occ)):=by
    rw [List.take_add_one,hd]
    simp [L.seen]
    exact hid trivial
   have Hd2:=hid hd
   have HTr:=hid (zi HT hbr)
   clear hd
   go_wp2_with (go_at_call 375;refine(zi9 _ _ _ _ hd8 HTr).mono ?_;rintro e w1 ⟨rfl,hb1⟩)
   exact⟨⟨k+1,by omega,by go_num,by rw [Hs.out],za hbr hb1⟩,by simp [intOf];omega⟩
  ·obtain rfl:k=n:=by omega
   go_wp2
   go_ret
   exact⟨by rw [List.take_of_length_le (by have:=Hn.out;omega)];rfl,hbr⟩
theorem zcU(s:Int)(occ:BitVec 64)(w:World)(hT:Tb w):
  cB 336 #[.int .i64 s,.int .u64 (U occ)] w (.int .u64 (U (L.rook s occ))):=by
 have HT:=hid hT
 clear hT
 go_enter func336,ntmps336
 go_wp2_with (go_at_call 364;refine(zeG s occ _ 4 [0,2,4,6] _ (zi HT bA) rfl om dc sp (zai _ [0,2,4,6] _)).mono ?_;rintro e w1 ⟨rfl,hb1⟩)
 go_ret
 exact⟨rfl,bA.trans (hb1.mono sp)⟩
theorem zbJ(s:Int)(occ:BitVec 64)(w:World)(hT:Tb w):
  cB 335 #[.int .i64 s,.int .u64 (U occ)] w (.int .u64 (U (L.bishop s occ))):=by
 have HT:=hid hT
 clear hT
 go_enter func335,ntmps335
 go_wp2_with (go_at_call 364;refine(zeG s occ _ 4 [1,3,5,7] _ (zi HT bA) rfl om dc sp (zai _ [1,3,5,7] _)).mono ?_;rintro e w1 ⟨rfl,hb1⟩)
 go_ret
 exact⟨rfl,bA.trans (hb1.mono sp)⟩
theorem zdj(s:Int)(occ:BitVec 64)(w:World)(hT:Tb w):
  cB 337 #[.int .i64 s,.int .u64 (U occ)] w (.int .u64 (U (L.queen s occ))):=by
 have HT:=hid hT
 clear hT
 go_enter func337,ntmps337
 go_wp2_with (first|(go_at_call 336;refine(zcU _ _ _ HT).mono ?_;rintro e w1 ⟨rfl,hb1⟩)|(go_at_call 335;refine(zbJ _ _ _ (zi HT hb1)).mono ?_;rintro e w2 ⟨rfl,hb2⟩))
 go_ret
 exact⟨rfl,za hb1 hb2⟩
def BdOk(c:Nat→Int):Prop:=∀s,s<64→0≤c (1+s)∧c (1+s)≤255
def bdL(c:Nat→Int):List Value:=(List.range 64).map fun i=>Value.int .u8 (c (1+i))
theorem zc7(c:Nat→Int)(i:Nat)(h:i<64):(bdL c)[i]? =some (.int .u8 (c (1+i))):=by simp [bdL,h]
theorem zhL{w:World}{b:Nat}{t:TypeId}{fr:Nat×Nat}{c:Nat→Int}(hg:w.heap[b]? =some (.cells (posC c) t fr)):w.rangeAt b 1 (bdL c):=by
 intro j v hv
 by_cases h:j<64
 ·rw [zc7 c j h]at hv
  simp only [World.cell?,hg]
  rw [←hv]
  exact zbM c j h
 ·rw [List.getElem?_eq_none (by simp [bdL];omega)]at hv;cases hv
theorem infoBd:(prog.info? 22).map (·.size)=some 64:=by kernel_rfl
theorem zbT{ops:Array Oper}{rest:List Oper}{op:Oper}{a:Act}{w:World}{Q:Exit→Act→World→Prop}(hgd:op.guard=none)(x:Operand)(ho:op.op= .load 22 x)
  (c:Nat→Int) (hx:∃b t fr,a.eval x= .pointer (some ⟨b,1,none⟩)∧w.heap[b]? =some (.cells (posC c) t fr))
  (h:wpList prog ops Q rest (a.put op.dst (.agg (bdL c).toArray)) w):wpList prog ops Q (op::rest) a w:=
 let⟨b,t,fr,h1,hg⟩:=hx
 wpList_load_mid hgd 22 x ho b 1 h1 (bdL c) _ (zhL hg) underlying22 rfl (by rw [infoBd];simp [bdL]) h
theorem zcL(c:Nat→Int)(k:Nat)(hk:k<64)(w:World):(Instr.index 22 (.agg (bdL c).toArray) (.int .i64 (k:Int))).run prog w= .ok (.int .u8 (c (1+k))) w:=by
 have h2:((k:Int)<64):=by omega
 have e:=zc7 c k hk
 simp [Instr.index,run_underlying underlying22,asIntOf,go_sem,part,e,hk]
namespace S
def upTo(c:Nat→Int)(g:Int→Bool):Nat→BitVec 64
 |0=>0#64
 |n+1=>if P.isB (c (1+n))&&g (c (1+n))then B.put (upTo c g n) n else upTo c g n
def set(c:Nat→Int)(g:Int→Bool):BitVec 64:=upTo c g 64
def ofG(color kind:Int)(x:Int):Bool:=P.color x==color&&(kind==0||P.kind x==kind)
def of(c:Nat→Int)(color kind:Int):BitVec 64:=set c (ofG color kind)
def all(c:Nat→Int):BitVec 64:=set c fun _=>true
def find(c:Nat→Int)(color kind:Int):Int:=B.first (of c color kind)
theorem upTo_yes(c:Nat→Int)(g:Int→Bool)(n:Nat)(h:P.isB (c (1+n))=true)(h2:g (c (1+n))=true):upTo c g (n+1)=B.put (upTo c g n) n:=by rw [upTo,h,h2];rfl
theorem upTo_no(c:Nat→Int)(g:Int→Bool)(n:Nat)(h:P.isB (c (1+n))=true)(h2:g (c (1+n))=false):upTo c g (n+1)=upTo c g n:=by rw [upTo,h,h2];rfl
theorem upTo_none(c:Nat→Int)(g:Int→Bool)(n:Nat)(h:P.isB (c (1+n))=false):upTo c g (n+1)=upTo c g n:=by rw [upTo,h];rfl
end S
theorem zhA(x:Int)(w:World):
  cR 280 #[.int .u8 x] w (.bool true) fun w'=>w=w':=by
 go_enter func280,ntmps280
 go_wp2
 go_ret
 exact⟨rfl,rfl⟩
theorem ziv(c:Nat→Int)(w:World)(hc:BdOk c):
  cB 205 #[.agg (posC c),.func (.func 280) #[] #[]] w (.int .u64 (U (S.all c))):=by
 have Hc:=hid hc
 clear hc
 go_enter func205,ntmps205
 go_wp2_with ((with_reducible refine zbT rfl _ rfl c ?_ ?_);·(exact⟨_,_,_,rfl,heap_alloc_new _ _⟩))
 go_loopw [5,10] (fun v i wr=>∃k:Nat,k≤64∧i= .int .i64 (k:Int)∧v= .int .u64 (U (S.upTo c (fun _=>true) k))∧Below w.heap.size w wr) (fun _ i _=>64-(intOf i).toNat)
 case atStart=>exact⟨0,Nat.zero_le _,rfl,rfl,(Below.refl _ _).alloc (Nat.le_refl _) _⟩
 case round=>
  obtain⟨k,hk,rfl,rfl,hbr⟩:=hrel
  by_cases hlt:k<64
  ·have hi:=zcL c k hlt
   obtain⟨h0,h1⟩:=Hc k hlt
   by_cases hP:P.isB (c (1+k))=true
   ·have HP:=hid hP
    clear hP
    go_wp2_with (first|(go_at_call 188;refine(is_eq _ true _ h0 h1 HP).mono ?_;rintro e w' ⟨rfl,rfl⟩)|(go_at_call 280;refine(zhA _ _).mono ?_;rintro e w' ⟨rfl,rfl⟩)|(go_at_call 285;refine(zeq _ _ _).mono ?_;rintro e w' ⟨rfl,rfl⟩))
    exact⟨⟨k+1,by omega,by go_num,by rw [S.upTo_yes _ _ _ HP.out rfl],hbr⟩,by simp [intOf];omega⟩
   ·have HP:=hid (show P.isB (c (1+k))=false by simpa using hP)
    clear hP
    go_wp2_with (first|(go_at_call 188;refine(is_eq _ false _ h0 h1 HP).mono ?_;rintro e w' ⟨rfl,rfl⟩))
    exact⟨⟨k+1,by omega,by go_num,by rw [S.upTo_none _ _ _ HP.out],hbr⟩,by simp [intOf];omega⟩
  ·obtain rfl:k=64:=by omega
   go_wp2
   go_ret
   exact⟨rfl,hbr⟩
theorem zan(c:Nat→Int)(w:World)(hc:BdOk c):
  cB 197 #[.agg (posC c)] w (.int .u64 (U (S.all c))):=by
 have Hc:=hid hc
 clear hc
 go_enter func197,ntmps197
 go_wp2_with (first|((with_reducible refine zH rfl _ rfl c ?_ ?_);·(exact⟨_,_,_,rfl,heap_alloc_new _ _⟩))|(go_at_call 205;refine(ziv c _ Hc).mono ?_;rintro e w1 ⟨rfl,hb1⟩))
 go_ret
 exact⟨rfl,bA.trans (hb1.mono sp)⟩
theorem zir(x color kind:Int)(b1 b2:Nat)(w:World)(h0:0≤x)(h1:x≤255)(c1:w.cell? ⟨b1,0,none⟩=some (.int .u8 color))(c2:w.cell? ⟨b2,0,none⟩=some (.int .u8 kind)):
  cB 206 #[.int .u8 x,.pointer (some ⟨b1,0,none⟩),.pointer (some ⟨b2,0,none⟩)] w (.bool (S.ofG color kind x)):=by
 cases e1:(P.color x==color)<;>cases e2:(kind==0)
 all_goals
  go_enter func206,ntmps206
  go_wp2
  go_quiet ((first|(go_at_call 207;exact zJ (zgF _ _ om om))|(go_at_call 122;exact zJ (zaF _ _ om om))))
  go_wp2
  go_ret
  exact⟨zy (by unfold S.ofG;rw [e1,e2];simp),below_drewN (Below.refl _ _) _⟩
def OfOk(B1 B2:Nat)(color kind:Int)(w:World):Prop:=∀(x:Int) (w':World),0≤x→x≤255→Below w.heap.size w w'→cB 206 #[.int .u8 x,.pointer (some ⟨B1,0,none⟩),.pointer (some ⟨B2,0,none⟩)] w' (.bool (S.ofG color kind x))
theorem set_of(c:Nat→Int)(color kind:Int)(B1 B2:Nat)(w:World)(hc:BdOk c)(h:OfOk B1 B2 color kind w):
  cB 205 #[.agg (posC c),.func (.func 206) #[] #[.pointer (some ⟨B1,0,none⟩),.pointer (some ⟨B2,0,none⟩)]] w (.int .u64 (U (S.of c color kind))):=by
 have Hc:=hid hc
 have H:=hid h
 clear hc h
 go_enter func205,ntmps205
 go_wp2_with ((with_reducible refine zbT rfl _ rfl c ?_ ?_);·(exact⟨_,_,_,rfl,heap_alloc_new _ _⟩))
 go_loopw [5,10] (fun v i wr=>∃k:Nat,k≤64∧i= .int .i64 (k:Int)∧v= .int .u64 (U (S.upTo c (S.ofG color kind) k))∧Below w.heap.size w wr) (fun _ i _=>64-(intOf i).toNat)
 case atStart=>exact⟨0,Nat.zero_le _,rfl,rfl,(Below.refl _ _).alloc (Nat.le_refl _) _⟩
 case round=>
  obtain⟨k,hk,rfl,rfl,hbr⟩:=hrel
  by_cases hlt:k<64
  ·have hi:=zcL c k hlt
   obtain⟨h0,h1⟩:=Hc k hlt
   by_cases hP:P.isB (c (1+k))=true
   ·have HP:=hid hP
    clear hP
    cases hq:S.ofG color kind (c (1+k))
    ·go_wp2_with (first|(go_at_call 188;refine(is_eq _ true _ h0 h1 HP).mono ?_;rintro e w' ⟨rfl,rfl⟩)|(go_at_call 206;refine(H _ _ h0 h1 hbr).mono ?_;rintro e w1 ⟨rfl,hb1⟩))
     exact⟨⟨k+1,by omega,by go_num,by rw [S.upTo_no _ _ _ HP.out hq],za hbr hb1⟩,by simp [intOf];omega⟩
    ·go_wp2_with (first|(go_at_call 188;refine(is_eq _ true _ h0 h1 HP).mono ?_;rintro e w' ⟨rfl,rfl⟩)|(go_at_call 206;refine(H _ _ h0 h1 hbr).mono ?_;rintro e w1 ⟨rfl,hb1⟩)|(go_at_call 285;refine(zeq _ _ _).mono ?_;rintro e w' ⟨rfl,rfl⟩))
     exact⟨⟨k+1,by omega,by go_num,by rw [S.upTo_yes _ _ _ HP.out hq],za hbr hb1⟩,by simp [intOf];omega⟩
   ·have HP:=hid (show P.isB (c (1+k))=false by simpa using hP)
    clear hP
    go_wp2_with (first|(go_at_call 188;refine(is_eq _ false _ h0 h1 HP).mono ?_;rintro e w' ⟨rfl,rfl⟩))
    exact⟨⟨k+1,by omega,by go_num,by rw [S.upTo_none _ _ _ HP.out],hbr⟩,by simp [intOf];omega⟩
  ·obtain rfl:k=64:=by omega
   go_wp2
   go_ret
   exact⟨rfl,hbr⟩
theorem zO(c:Nat→Int)(color kind:Int)(w:World)(hc:BdOk c):
  cB 134 #[.agg (posC c),.int .u8 color,.int .u8 kind] w (.int .u64 (U (S.of c color kind))):=by
 have Hc:=hid hc
 clear hc
 have hO:OfOk (w.heap.size+1) (w.heap.size+1+1) color kind (((w.alloc (.cells (posC c) 31)).alloc (.cells #[.int .u8 color] 5)).alloc (.cells #[.int .u8 kind] 5)):=by
  intro x w' h0 h1 hb
  refine zir x color kind _ _ w' h0 h1 ?_ ?_
  ·refine(hb.cell (p:=⟨_,0,none⟩) (by simp<;>omega)).trans ?_
   simp [go_sem]
  ·refine(hb.cell (p:=⟨_,0,none⟩) (by simp<;>omega)).trans ?_
   simp [go_sem]
 have HO:=hid hO
 clear hO
 have hmf:∀(fn:Fn) (first cap:Array Value) (w:World),(Instr.makeFunc fn first cap).run prog w= .ok (.func fn first cap) w:=fun _ _ _ _=>rfl
 go_enter func134,ntmps134
 go_wp2_with (first|((with_reducible refine zH rfl _ rfl c ?_ ?_);·(exact⟨_,_,_,rfl,by repeat(first|exact heap_alloc_new _ _|assumption|refine(Below.heap_alloc _ _ _ (by simp<;>omega)).trans ?_)⟩))|(go_at_call 205;refine(set_of c color kind _ _ _ Hc HO).mono ?_;rintro e w1 ⟨rfl,hb1⟩))
 go_ret
 exact⟨rfl,((bA.alloc sp _).alloc (by simp<;>omega) _).trans (hb1.mono (by simp<;>omega))⟩
theorem zW(c:Nat→Int)(color kind:Int)(w:World)(hc:BdOk c)(hT:Tb w):
  cB 132 #[.agg (posC c),.int .u8 color,.int .u8 kind] w (.int .i64 (S.find c color kind)):=by
 have Hc:=hid hc
 have HT:=hid (zi hT ((Below.refl w.heap.size w).alloc (Nat.le_refl _) (.cells (posC c) 31)))
 clear hc hT
 go_enter func132,ntmps132
 go_wp2_with (first|((with_reducible refine zH rfl _ rfl c ?_ ?_);·(exact⟨_,_,_,rfl,heap_alloc_new _ _⟩))|(go_at_call 134;refine(zO c _ _ _ Hc).mono ?_;rintro e w1 ⟨rfl,hb1⟩)|(go_at_call 203;refine(zce _ _ (zi HT hb1)).mono ?_;rintro e w2 ⟨rfl,rfl⟩))
 go_ret
 exact⟨rfl,bA.trans (hb1.mono sp)⟩
section
variable {P:Program} {Q:Exit→Act→World→Prop} {n:Nat}
theorem ziP{l:Nat}{o:Oper}{a:Act}{w:World}{K:Act→World→Prop}(hd:∀c,o.op≠ .defer c)(h:o.wp P a w K Q):o.wpIn (Fence.wide.inRound l) n P a w K Q:=by
 refine⟨fun _ _=>trivial,?_⟩
 have e:Oper.semAt (Fence.wide.inRound l).round a.eval o=execOp a.eval o:=Oper.semAt_eq _ _ _ hd
 rw [e]
 unfold Oper.wp at h
 generalize(execOp a.eval o).run P w=r at*
 cases r with
 |ok x w'=>
  cases x with
  |value v=>exact h
  |skip=>exact h
  |defer d=>exact h
  |enter f args=>exact⟨fun h=>by simp [Fence.wide]at h,CallsIn.inRound l (callsIn_wide.2 h)⟩
  |row row args=>exact⟨fun h=>by simp [Fence.wide]at h,fun c cs _=>let⟨v,w',r,s⟩:=h c cs;⟨v,w',r,stepsIn_wide.2 s⟩⟩
  |_=>exact absurd h (by simp [Oper.upon])
 |halt x w'=>cases x<;>first|exact h|exact absurd h (by simp [Oper.upon])
theorem any_in{l:Nat}{md:Region.Mode}{ops:Array Oper}(hQ:¬LetsOut Q)(hd:∀(i:Nat) (o:Oper),ops[i]? =some o→∀c,o.op≠ .defer c):
  ∀(f:Nat) (listed:Array Bool) (a:Act) (w:World),wpAny P md ops Q f listed a w→wpAnyIn (Fence.wide.inRound l) n P md ops Q f listed a w:=by
 intro f
 induction f with
 |zero=>intro listed a w h;exact h
 |succ f ih=>
  intro listed a w h
  refine⟨h.1,fun i hi=> ?_⟩
  have h2:=h.2 i hi
  unfold wpOp at h2
  unfold wpOpIn
  split
  ·rename_i ho
   rw [ho]at h2
   exact ih _ _ _ h2
  ·rename_i o ho
   rw [ho]at h2
   simp only at h2
   split
   ·rename_i hw
    rw [if_pos hw]at h2
    rcases h2 with h2|h2
    ·exact Oper.wpIn_mono (fun a' w' h'=>ih _ a' w' h') (ziP (hd i o ho) h2)
    ·exact absurd h2.2 hQ
   ·rename_i hw
    rw [if_neg hw]at h2
    exact⟨fun _ _=>trivial,ih _ _ _ h2⟩
def noDefer(l:List Oper):Bool:=l.all fun o=>match o.op with| .defer _=>false|_=>true
theorem ze6{l:List Oper}(h:noDefer l=true)(i:Nat)(o:Oper)(ho:l.toArray[i]? =some o)(c:Call):o.op≠ .defer c:=by
 intro e
 have:=List.all_eq_true.1 h o (List.mem_of_getElem? (by simpa using ho))
 rw [e]at this
 cases this
theorem zU{l0:Nat}{id N:Nat}{a:Act}{w:World}{l:List Oper}(hQ:¬LetsOut Q)(hd:noDefer l=true)(hm:P.follows .mixedOrders=true)(hB:tailOk l N=true)
  (h:wpQuiet P l.toArray (fun w'=>∃p:Regrown,w'=grow (redrawn w p.d) p.os) (fun a'=>∀w',Below w.heap.size w w'→wpList P l.toArray Q (l.drop N) a' w') (l.take N) a):(Code.region id l.toArray true).wpIn (Fence.wide.inRound l0) n P Q a w:=
 wpIn_region_any hm (any_in hQ (ze6 hd) _ _ _ _ (zaN hB h))
def Puts(B:Nat)(J:World→Prop):Prop:=∀(W:World) (l:Nat) (o o':Obj),J W→B≤l→W.heap[l]? =some o→o.isCells=false→J (W.putObj l o')
def Grows(J:World→Prop):Prop:=∀W W',J W→Below W.heap.size W W'→J W'
theorem zaO{α:Type}{g:Operand}{ps:Array Tmp}{assign body:Code}{a:Act}{w:World}{gf:Nat}{lb:Array Value}
  (hg:a.eval g= .func (.func gf) #[] lb) (eg:∀args w,(callFunc gf args).run P w= .ok (.enter gf args) w)
  (encs:α→Array Value) (hps:∀x,(encs x).size=ps.size) (I:List α→World→Prop) (Ok:α→World→Prop) (Kp:World→World→Prop) (Ax:α→Act→World→Prop) (S:List α→Prop)
  (hI1:∀s,Grows (I s)) (hI2:∀s,Puts w.heap.size (I s)) (hO2:∀x,Puts w.heap.size (Ok x)) (hA2:∀x a',Puts w.heap.size (Ax x a'))
  (hKt:∀{A B C:World},Kp A B→Kp B C→Kp A C) (hKp:∀W,Puts w.heap.size (Kp W)) (hKr:∀W,Kp W W)
  (hiter:∀(l:Nat) (J:List α→World→Prop) (W:World),Below w.heap.size w W→(∀s,Grows (J s))→J [] W→
   (∀pre x W1,J pre W1→Ok x W1→YieldAt Fence.wide (n-1-1) P l (encs x) W1 fun e W'=>e= .returned (.bool true)∧J (pre++[x]) W'∧Kp W1 W')→
   CallsIn Fence.wide (n-1) P gf (#[.func (.yield l) #[] #[]]++lb) W fun e W'=>(∃v,e= .returned v)∧∃xs,S xs∧J xs W')
  (h0:I [] w)
  (hassign:∀(l:Nat) (pre:List α) (x:α) (W:World) (K:Act→World→Prop),I pre W→Ok x W→(∀a' W',KeepsFrom w.heap.size W W'→Kp W W'→I pre W'→Ok x W'→Ax x a' W'→K a' W')→
   assign.wpIn (Fence.wide.inRound l) (n-1-1) P (Exit.then K (fun _ _ _=>False)) {tmps:=(ps.zip (encs x)).foldl (fun t (p,v)=>t.setIfInBounds p v) a.tmps,defers:=[]} W)
  (hbody:∀(l:Nat) (pre:List α) (x:α) (a':Act) (W:World),w.heap.size≤l→I pre W→Ok x W→Ax x a' W→
   body.wpIn (Fence.wide.inRound l) (n-1-1) P (fun e _ W'=>e= .normal∧KeepsFrom w.heap.size W W'∧Kp W W'∧I (pre++[x]) W') a' W)
  (hdone:∀(D:Nat) (xs:List α) (W:World),w.heap.size≤D→S xs→I xs W→W.heap[D]? =some (.deferred (some []))→Q .normal {a with defers:={target:= .collected D,args:= #[]}::a.defers} W):
  (Code.rangeFunc g ps assign body).wpIn Fence.wide n P Q a w:=by
 refine wpIn_rangeFunc fun fn hfn=> ?_
 generalize hB:w.heap.size=B at*
 --the record of the loop;where it lies,and the block beneath it
 let rc:LoopState→Loop:=fun st=>{state:=st,pending:=none,fn,tmps:=a.tmps,params:=ps,assign,body,defers:=B}
 let Bk:World→Prop:=fun W=>W.heap[B+1]? =some (.loop (rc .ready))∧W.heap[B]? =some (.deferred (some []))
 have hBg:Grows Bk:=fun W W' h hb=>⟨(hb.block _ (Array.getElem?_eq_some_iff.1 h.1).1).trans h.1,(hb.block _ (Array.getElem?_eq_some_iff.1 h.2).1).trans h.2⟩
 let W1:World:=(w.alloc (.deferred (some []))).alloc (.loop (rc .ready))
 have hW1:Below B w W1:=by
  have:=((Below.refl w.heap.size w).alloc (Nat.le_refl _) (.deferred (some []))).alloc sp (.loop (rc .ready))
  rwa [hB]at this
 have hbk1:Bk W1:=by
  constructor
  ·have:=World.alloc_heap_new (w.alloc (.deferred (some []))) (.loop (rc .ready))
   rwa [World.size_alloc,hB]at this
  ·have:=(Below.heap_alloc (w.alloc (.deferred (some []))) (.loop (rc .ready)) w.heap.size sp).trans (World.alloc_heap_new w _)
   rwa [hB]at this
 have hI1':I [] W1:=hI1 _ w W1 h0 (by rw [hB];exact hW1)
 refine⟨B+1,[{target:= .collected B,args:= #[]}],W1,{target:= .fn (.func gf) lb,args:= #[.func (.yield (B+1)) #[] #[]]},W1,gf,#[.func (.yield (B+1)) #[] #[]]++lb,W1,?_,?_,fun _ _=>trivial,?_,fun h=>by simp [Fence.wide]at h,?_⟩
 ·have:=run_enterLoop_outer (P:=P) (w:=w) fn a.tmps ps assign body
  rw [hB]at this
  exact this
 ·simp only [resolve,hg]
  simp [go_sem]
 ·simp [invoke,go_sem,eg]
 ·refine(hiter (B+1) (fun s W=>I s W∧Bk W) W1 hW1 (fun s W W' h hb=>⟨hI1 s W W' h.1 hb,hBg W W' h.2 hb⟩) ⟨hI1',hbk1⟩ ?_).mono ?_
  ·rintro pre x W ⟨hi,hl,hk⟩ hok
   refine⟨fn,_,assign,body,run_yield (P:=P) hl (hps x),roundIn_of_wpIn trivial (hassign (B+1) pre x W _ hi hok fun a' Wa hkf hkp hia hoa hax=> ?_)⟩
   have hla:=hkf.same _ _ (Nat.le_succ B) hl rfl
   have hka:=hkf.same _ _ (Nat.le_refl B) hk rfl
   refine⟨_,run_beginRound hla rfl,?_⟩
   have hlt:=(Array.getElem?_eq_some_iff.1 hla).1
   have hp:=hI2 pre Wa (B+1) _ (.loop {rc .ready with state:= .busy}) hia (Nat.le_succ B) hla rfl
   have hkp2:=hKp Wa Wa (B+1) _ (.loop {rc .ready with state:= .busy}) (hKr Wa) (Nat.le_succ B) hla rfl
   refine wpIn_mono (hbody (B+1) pre x a' _ (Nat.le_succ B) hp (hO2 x Wa (B+1) _ _ hoa (Nat.le_succ B) hla rfl) (hA2 x a' Wa (B+1) _ _ hax (Nat.le_succ B) hla rfl)) ?_
   rintro e a3 W3 ⟨rfl,hk3,hkp3,hi3⟩
   have hl3:=hk3.same (B+1) (.loop {rc .ready with state:= .busy}) (Nat.le_succ B) (World.putObj_heap_same hlt) rfl
   have hd3:=hk3.same B (.deferred (some [])) (Nat.le_refl B) ((World.putObj_heap_other om).trans hka) rfl
   refine⟨_,_,run_endRound (P:=P) none hl3,rfl,⟨hI2 _ W3 (B+1) _ _ hi3 (Nat.le_succ B) hl3 rfl,World.putObj_heap_same (Array.getElem?_eq_some_iff.1 hl3).1,(World.putObj_heap_other om).trans hd3⟩,?_⟩
   exact hKt hkp (hKt hkp2 (hKp _ W3 (B+1) _ _ hkp3 (Nat.le_succ B) hl3 rfl))
  ·rintro e W2 ⟨⟨v,rfl⟩,xs,hS,hi,hl,hk⟩
   exact⟨none,_,run_endLoop (P:=P) hl (by simp [rc]),hdone B xs _ (Nat.le_refl B) hS (hI2 _ W2 (B+1) _ _ hi (Nat.le_succ B) hl rfl) ((World.putObj_heap_other om).trans hk)⟩
end
end
section
open Go.RowKit Go.Sort
namespace K
def hits(k:Nat)(color s:Int)(all:BitVec 64):BitVec 64:=
 match k with
 |1=>R.pawn color s
 |2=>R.knight s
 |3=>L.bishop s all
 |4=>L.rook s all
 |5=>L.queen s all
 |6=>R.king s
 |_=>0#64
def ptr(b:Nat):Value:= .pointer (some ⟨b,0,none⟩)
def fn(k b:Nat):Value:=
 match k with
 |1=> .func (.func 366) #[] #[]
 |2=> .func (.func 376) #[] #[ptr b]
 |6=> .func (.func 376) #[] #[ptr b]
 |3=> .func (.func 377) #[] #[ptr b]
 |4=> .func (.func 377) #[] #[ptr b]
 |5=> .func (.func 377) #[] #[ptr b]
 |_=> .nilFunc
def inner(k:Nat):Value:=
 match k with
 |2=> .func (.func 334) #[] #[]
 |6=> .func (.func 202) #[] #[]
 |3=> .func (.func 335) #[] #[]
 |4=> .func (.func 336) #[] #[]
 |5=> .func (.func 337) #[] #[]
 |_=> .nilFunc
def Ok(k b:Nat)(w:World):Prop:=k=1∨w.cell? ⟨b,0,none⟩=some (inner k)
theorem Ok.below{k b:Nat}{w w':World}(h:Ok k b w)(hb:Below w.heap.size w w'):Ok k b w':=
 h.imp id fun h=>(hb.cell (p:=⟨b,0,none⟩) (World.block_lt_of_cell? w ⟨b,0,none⟩ h)).trans h
end K
theorem zgu(color s:Int)(all:BitVec 64)(w:World):
  cB 366 #[.int .u8 color,.int .i64 s,.int .u64 (U all)] w (.int .u64 (U (R.pawn color s))):=by
 go_enter func366,ntmps366
 go_wp2_with (go_at_call 133;refine(za9 _ _ _).mono ?_;rintro e w1 ⟨rfl,hb1⟩)
 go_ret
 exact⟨rfl,hb1⟩
theorem zdO(color s:Int)(all:BitVec 64)(b:Nat)(w:World)(hb:w.cell? ⟨b,0,none⟩=some (.func (.func 334) #[] #[])):
  cB 376 #[.int .u8 color,.int .i64 s,.int .u64 (U all),.pointer (some ⟨b,0,none⟩)] w (.int .u64 (U (R.knight s))):=by
 go_enter func376,ntmps376
 go_wp2_with (go_at_call 334;refine(zcD _ _).mono ?_;rintro e w1 ⟨rfl,hb1⟩)
 go_ret
 exact⟨rfl,hb1⟩
theorem ze7(color s:Int)(all:BitVec 64)(b:Nat)(w:World)(hb:w.cell? ⟨b,0,none⟩=some (.func (.func 202) #[] #[])):
  cB 376 #[.int .u8 color,.int .i64 s,.int .u64 (U all),.pointer (some ⟨b,0,none⟩)] w (.int .u64 (U (R.king s))):=by
 go_enter func376,ntmps376
 go_wp2_with (go_at_call 202;refine(zao _ _).mono ?_;rintro e w1 ⟨rfl,hb1⟩)
 go_ret
 exact⟨rfl,hb1⟩
theorem zcY(color s:Int)(all:BitVec 64)(b:Nat)(w:World)(hT:Tb w)(hb:w.cell? ⟨b,0,none⟩=some (.func (.func 335) #[] #[])):
  cB 377 #[.int .u8 color,.int .i64 s,.int .u64 (U all),.pointer (some ⟨b,0,none⟩)] w (.int .u64 (U (L.bishop s all))):=by
 have HT:=hid hT
 clear hT
 go_enter func377,ntmps377
 go_wp2_with (go_at_call 335;refine(zbJ _ _ _ HT).mono ?_;rintro e w1 ⟨rfl,hb1⟩)
 go_ret
 exact⟨rfl,hb1⟩
theorem zd2(color s:Int)(all:BitVec 64)(b:Nat)(w:World)(hT:Tb w)(hb:w.cell? ⟨b,0,none⟩=some (.func (.func 336) #[] #[])):
  cB 377 #[.int .u8 color,.int .i64 s,.int .u64 (U all),.pointer (some ⟨b,0,none⟩)] w (.int .u64 (U (L.rook s all))):=by
 have HT:=hid hT
 clear hT
 go_enter func377,ntmps377
 go_wp2_with (go_at_call 336;refine(zcU _ _ _ HT).mono ?_;rintro e w1 ⟨rfl,hb1⟩)
 go_ret
 exact⟨rfl,hb1⟩
theorem zdL(color s:Int)(all:BitVec 64)(b:Nat)(w:World)(hT:Tb w)(hb:w.cell? ⟨b,0,none⟩=some (.func (.func 337) #[] #[])):
  cB 377 #[.int .u8 color,.int .i64 s,.int .u64 (U all),.pointer (some ⟨b,0,none⟩)] w (.int .u64 (U (L.queen s all))):=by
 have HT:=hid hT
 clear hT
 go_enter func377,ntmps377
 go_wp2_with (go_at_call 337;refine(zdj _ _ _ HT).mono ?_;rintro e w1 ⟨rfl,hb1⟩)
 go_ret
 exact⟨rfl,hb1⟩
theorem zeD(v:Nat)(w:World):
  Calls prog 367 #[.func (.func v) #[] #[]] w fun e w'=>∃b,e= .returned (.agg #[.func (.func 376) #[] #[.pointer (some ⟨b,0,none⟩)]])∧w.heap.size≤b∧w'.cell? ⟨b,0,none⟩=some (.func (.func v) #[] #[])∧Below w.heap.size w w':=by
 have hmf:∀(fn:Fn) (first cap:Array Value) (w:World),(Instr.makeFunc fn first cap).run prog w= .ok (.func fn first cap) w:=fun _ _ _ _=>rfl
 go_enter func367,ntmps367
 go_wp2
 refine bodyPost_ret (v:= .agg #[.func (.func 376) #[] #[.pointer (some ⟨w.heap.size,0,none⟩)]]) ?_ rfl ⟨w.heap.size,rfl,Nat.le_refl _,?_,?_⟩
 ·simp [results,results367,go_sem]
 ·simp [go_sem]
 ·exact bA.alloc sp _
theorem zck(v:Nat)(w:World):
  Calls prog 368 #[.func (.func v) #[] #[]] w fun e w'=>∃b,e= .returned (.agg #[.func (.func 377) #[] #[.pointer (some ⟨b,0,none⟩)]])∧w.heap.size≤b∧w'.cell? ⟨b,0,none⟩=some (.func (.func v) #[] #[])∧Below w.heap.size w w':=by
 have hmf:∀(fn:Fn) (first cap:Array Value) (w:World),(Instr.makeFunc fn first cap).run prog w= .ok (.func fn first cap) w:=fun _ _ _ _=>rfl
 go_enter func368,ntmps368
 go_wp2
 refine bodyPost_ret (v:= .agg #[.func (.func 377) #[] #[.pointer (some ⟨w.heap.size,0,none⟩)]]) ?_ rfl ⟨w.heap.size,rfl,Nat.le_refl _,?_,?_⟩
 ·simp [results,results368,go_sem]
 ·simp [go_sem]
 ·exact bA.alloc sp _
namespace K
def tab(b:Nat→Nat):Array Value:= #[.nilFunc,fn 1 (b 1),fn 2 (b 2),fn 3 (b 3),fn 4 (b 4),fn 5 (b 5),fn 6 (b 6)]
def AllOk(b:Nat→Nat)(w:World):Prop:=∀k,1≤k→k≤6→Ok k (b k) w
end K
def K.noTab:Array Value:= #[.nilFunc,.nilFunc,.nilFunc,.nilFunc,.nilFunc,.nilFunc,.nilFunc]
@[go_sem] theorem zhM (P : Program) (w : World) (a : Addr) (m : Mode) : (store a .nilFunc m).run P w = stored P w a .nilFunc m:=run_store P w a _ m rfl
theorem zeE(w:World):
  Calls prog 344 #[] w fun e w'=>∃b,e= .returned (.agg (K.tab b))∧K.AllOk b w'∧(∀k,w.heap.size≤b k)∧Below w.heap.size w w':=by
 have hfin:∀w1 w2 w3 w4 w5:World,Below (w.alloc (.cells K.noTab 333)).heap.size (w.alloc (.cells K.noTab 333)) w1→Below w1.heap.size w1 w2→Below w2.heap.size w2 w3→Below w3.heap.size w3 w4→Below w4.heap.size w4 w5→(∀j,j<7→w5.cell? ⟨w.heap.size,j,none⟩=some .nilFunc)∧∀j,w5.frozen? ⟨w.heap.size,j,none⟩=false:=by
  intro w1 w2 w3 w4 w5 h1 h2 h3 h4 h5
  have k5:=za (za (za (za h1 h2) h3) h4) h5
  have hg:w5.heap[w.heap.size]? =some (.cells K.noTab 333 (0,0)):=(k5.block w.heap.size sp).trans (heap_alloc_new _ _)
  refine⟨fun j hj=> ?_,fun j=>by simp [World.frozen?,hg]⟩
  simp only [World.cell?,hg]
  rcases(show j=0∨j=1∨j=2∨j=3∨j=4∨j=5∨j=6 by omega)with rfl|rfl|rfl|rfl|rfl|rfl|rfl<;>rfl
 go_enter func344,ntmps344
 go_wp2_with (first
  |(go_at_call 367;first|(have:=hb1;refine(zeD _ _).mono ?_;rintro e w2 ⟨b6,rfl,hl6,hc6,hb2⟩)|(refine(zeD _ _).mono ?_;rintro e w1 ⟨b2,rfl,hl2,hc2,hb1⟩))
  |(go_at_call 368;first|(have:=hb4;refine(zck _ _).mono ?_;rintro e w5 ⟨b5,rfl,hl5,hc5,hb5⟩;obtain⟨zc,zf⟩:=hfin _ _ _ _ _ hb1 hb2 hb3 hb4 hb5;have z0:=zc 0 dc;have z1:=zc 1 dc;have z2:=zc 2 dc;have z3:=zc 3 dc;have z4:=zc 4 dc;have z5:=zc 5 dc;have z6:=zc 6 dc)|(have:=hb3;refine(zck _ _).mono ?_;rintro e w4 ⟨b3,rfl,hl3,hc3,hb4⟩)|(refine(zck _ _).mono ?_;rintro e w3 ⟨b4,rfl,hl4,hc4,hb3⟩)))
 let b:Nat→Nat:=fun k=>match k with|2=>b2|3=>b3|4=>b4|5=>b5|_=>b6
 have hkeep:∀{X Y:World} {b f:Nat},X.cell? ⟨b,0,none⟩=some (.func (.func f) #[] #[])→Below X.heap.size X Y→Y.cell? ⟨b,0,none⟩=some (.func (.func f) #[] #[]):=fun{X Y b f} h hb=>(hb.cell (p:=⟨b,0,none⟩) (World.block_lt_of_cell? X ⟨b,0,none⟩ h)).trans h
 have d2:=hkeep hc2 (za (za (za hb2 hb3) hb4) hb5)
 have d6:=hkeep hc6 (za (za hb3 hb4) hb5)
 have d4:=hkeep hc4 (za hb4 hb5)
 have d3:=hkeep hc3 hb5
 have hne:∀{b f:Nat},w5.cell? ⟨b,0,none⟩=some (.func (.func f) #[] #[])→b≠w.heap.size:=by
  rintro b f h rfl
  rw [z0]at h
  cases h
 have hput:∀{b f:Nat} (X:World) (j:Nat) (v:Value),b≠w.heap.size→X.cell? ⟨b,0,none⟩=some (.func (.func f) #[] #[])→(X.setCell ⟨w.heap.size,j,none⟩ v).cell? ⟨b,0,none⟩=some (.func (.func f) #[] #[]):=by
  intro b f X j v hb h
  rw [World.cell?_setCell_other _ _ _ _ (by intro e;exact hb (congrArg Addr.block e).symm)]
  exact h
 have hput7:∀{b f:Nat} (v0 v1 v2 v3 v4 v5 v6:Value),w5.cell? ⟨b,0,none⟩=some (.func (.func f) #[] #[])→(((((((w5.setCell ⟨w.heap.size,0,none⟩ v0).setCell ⟨w.heap.size,1,none⟩ v1).setCell ⟨w.heap.size,2,none⟩ v2).setCell ⟨w.heap.size,3,none⟩ v3).setCell ⟨w.heap.size,4,none⟩ v4).setCell ⟨w.heap.size,5,none⟩ v5).setCell ⟨w.heap.size,6,none⟩ v6).cell? ⟨b,0,none⟩=some (.func (.func f) #[] #[]):=by
  intro b f v0 v1 v2 v3 v4 v5 v6 h
  have hb:=hne h
  exact hput _ _ _ hb (hput _ _ _ hb (hput _ _ _ hb (hput _ _ _ hb (hput _ _ _ hb (hput _ _ _ hb (hput _ _ _ hb h))))))
 refine bodyPost_ret (v:= .agg (K.tab b)) ?_ rfl ⟨b,rfl,?_,?_,?_⟩
 ·simp [results,results344,go_sem,K.tab,K.fn,K.ptr,b,z0,z1,z2,z3,z4,z5,z6]
 ·intro k h1 h6
  rcases(show k=1∨k=2∨k=3∨k=4∨k=5∨k=6 by omega)with rfl|rfl|rfl|rfl|rfl|rfl
  ·exact .inl rfl
  ·exact .inr (hput7 _ _ _ _ _ _ _ d2)
  ·exact .inr (hput7 _ _ _ _ _ _ _ d3)
  ·exact .inr (hput7 _ _ _ _ _ _ _ d4)
  ·exact .inr (hput7 _ _ _ _ _ _ _ hc5)
  ·exact .inr (hput7 _ _ _ _ _ _ _ d6)
 ·have s1:=hb1.size
  have s2:=hb2.size
  have s3:=hb3.size
  have s4:=hb4.size
  simp at s1 hl2
  intro k
  simp only [b]
  split<;>omega
 ·have k5:Below w.heap.size w w5:=bA.trans ((za (za (za (za hb1 hb2) hb3) hb4) hb5).mono sp)
  exact((((((k5.setCell (p:=⟨w.heap.size,0,none⟩) (Nat.le_refl _) _).setCell (p:=⟨w.heap.size,1,none⟩) (Nat.le_refl _) _).setCell (p:=⟨w.heap.size,2,none⟩) (Nat.le_refl _) _).setCell (p:=⟨w.heap.size,3,none⟩) (Nat.le_refl _) _).setCell (p:=⟨w.heap.size,4,none⟩) (Nat.le_refl _) _).setCell (p:=⟨w.heap.size,5,none⟩) (Nat.le_refl _) _).setCell (p:=⟨w.heap.size,6,none⟩) (Nat.le_refl _) _
namespace K
def Kp(B:Nat)(W W':World):Prop:=W.heap.size≤W'.heap.size∧∀(b:Nat) (o:Obj),B≤b→W.heap[b]? =some o→o.isCells=true→W'.heap[b]? =some o
theorem Kp.refl(B:Nat)(W:World):Kp B W W:=⟨Nat.le_refl _,fun _ _ _ h _=>h⟩
theorem Kp.trans{B:Nat}{X Y Z:World}(h:Kp B X Y)(k:Kp B Y Z):Kp B X Z:=⟨Nat.le_trans h.1 k.1,fun b o hb hx ho=>k.2 b o hb (h.2 b o hb hx ho) ho⟩
theorem Kp.cell{B:Nat}{W W':World}(h:Kp B W W'){b o:Nat}{v:Value}(hb:B≤b)(hc:W.cell? ⟨b,o,none⟩=some v):W'.cell? ⟨b,o,none⟩=some v:=by
 have hlt:=World.block_lt_of_cell? W ⟨b,o,none⟩ hc
 have hg:W.heap[b]? =some W.heap[b]:=Array.getElem?_eq_getElem hlt
 have ho:(W.heap[b]).isCells=true:=by
  simp only [World.cell?,hg]at hc
  cases hq:W.heap[b]<;>simp [hq]at hc⊢ <;>rfl
 have h2:=h.2 b _ hb hg ho
 simp only [World.cell?,h2]
 simp only [World.cell?,hg]at hc
 exact hc
def xenc(x:Nat×Nat):Array Value:= #[.int .u8 (x.1:Int),.agg #[fn x.1 x.2]]
def OkX(x:Nat×Nat)(W:World):Prop:=1≤x.1∧x.1≤6∧Ok x.1 x.2 W
def upTo(k:Nat):List Nat:=(List.range (k-1)).map (· +1)
end K
theorem zdw(n l B:Nat)(J:List (Nat×Nat)→World→Prop)(W:World)(hn:1≤n)(hB:B≤W.heap.size)(hJ:∀s,Grows (J s))(h0:J [] W)
  (hY:∀pre x W1,J pre W1→K.OkX x W1→YieldAt Fence.wide (n-1) prog l (K.xenc x) W1 fun e W'=>e= .returned (.bool true)∧J (pre++[x]) W'∧K.Kp B W1 W'):
  CallsIn Fence.wide n prog 343 #[.func (.yield l) #[] #[]] W fun e W'=>(∃v,e= .returned v)∧∃xs,xs.map Prod.fst=K.upTo 7∧J xs W':=by
 refine callsIn_of_wp func343 rfl trivial ?_ rfl
 simp only [ntmps343,List.size_toArray,List.length_cons,List.length_nil,Nat.reduceAdd,Nat.reduceSub,Array.replicate_succ,Array.replicate_zero,List.push_toArray,List.append_toArray,List.nil_append,List.cons_append]
 gi_wp2_with (first|(refine⟨trivial,?_⟩;gi_at_call 344;refine(callsIn_wide.2 (zeE _)).mono ?_;rintro e W1 ⟨b,rfl,hok,hbl,hb1⟩;simp only [K.tab,K.fn,K.ptr])|(gi_at_call 344;refine(callsIn_wide.2 (zeE _)).mono ?_;rintro e W1 ⟨b,rfl,hok,hbl,hb1⟩;simp only [K.tab,K.fn,K.ptr]))
 have HY:=hid hY
 clear hY
 have hJ1:J [] (W1.alloc (.cells (K.tab b) 333)):=hJ _ _ _ (hJ _ _ _ h0 hb1) bA
 have hrow:∀j v,(K.tab b)[j]? =some v→(W1.alloc (.cells (K.tab b) 333)).cell? ⟨W1.heap.size,j,none⟩=some v:=fun j v h=>by
  rw [World.cell?_alloc_at _ _ _ _ rfl];exact h
 have hok1:K.AllOk b (W1.alloc (.cells (K.tab b) 333)):=fun k h1 h6=>(hok k h1 h6).below bA
 have hBW:B≤W1.heap.size:=Nat.le_trans hB hb1.size
 have hbB:∀k,B≤b k:=fun k=>Nat.le_trans hB (hbl k)
 have HJ1:=hid hJ1
 have Hrow:=hid hrow
 have Hok:=hid hok1
 clear hJ1 hrow hok1 hok h0
 gi_loopw [3] (fun v wr=>∃(k:Nat) (pre:List (Nat×Nat)),1≤k∧k≤7∧v= .int .u8 (k:Int)∧pre.map Prod.fst=K.upTo k∧J pre wr∧(∀j v,(K.tab b)[j]? =some v→wr.cell? ⟨W1.heap.size,j,none⟩=some v)∧K.AllOk b wr) (fun v _=>7-(intOf v).toNat)
 case atStart=>exact⟨1,[],by omega,by omega,rfl,rfl,HJ1,Hrow,Hok⟩
 case round=>
  obtain⟨k,pre,h1,h7,rfl,hpre,hJk,hrow,hok⟩:=hrel
  by_cases hlt:k<7
  ·have hyy:=HY pre (k,b k) wr hJk ⟨h1,by show k≤6;omega,hok k h1 om⟩
   have Hpre:=hid hpre
   have Hk:=hid hok
   have HR:=hid hrow
   clear hpre hok
   rcases(show k=1∨k=2∨k=3∨k=4∨k=5∨k=6 by omega)with rfl|rfl|rfl|rfl|rfl|rfl
   ·have hcell:wr.cell? ⟨W1.heap.size,1,none⟩=some (.func (.func 366) #[] #[]):=hrow 1 _ rfl
    clear hrow
    obtain⟨fn,tmps,assign,body,hy,hR⟩:=hyy
    change(Instr.yield l #[.int .u8 1,.agg #[.func (.func 366) #[] #[]]]).run _ _=_ at hy
    gi_wp2
    refine hR.mono ?_
    rintro e W3 ⟨rfl,hJ3,hk3⟩
    gi_wp2
    go_roundw
    case rel=>exact⟨1+1,_,by omega,by omega,rfl,by rw [List.map_append,Hpre.out];rfl,hJ3,fun j v h=>hk3.cell hBW (HR j v h),fun j h1 h6=>(Hk j h1 h6).imp id fun h=>hk3.cell (hbB j) h⟩
    case measure=>simp [intOf]
   ·have hcell:wr.cell? ⟨W1.heap.size,2,none⟩=some (.func (.func 376) #[] #[.pointer (some ⟨b 2,0,none⟩)]):=hrow 2 _ rfl
    clear hrow
    obtain⟨fn,tmps,assign,body,hy,hR⟩:=hyy
    change(Instr.yield l #[.int .u8 2,.agg #[.func (.func 376) #[] #[.pointer (some ⟨b 2,0,none⟩)]]]).run _ _=_ at hy
    gi_wp2
    refine hR.mono ?_
    rintro e W3 ⟨rfl,hJ3,hk3⟩
    gi_wp2
    go_roundw
    case rel=>exact⟨2+1,_,by omega,by omega,rfl,by rw [List.map_append,Hpre.out];rfl,hJ3,fun j v h=>hk3.cell hBW (HR j v h),fun j h1 h6=>(Hk j h1 h6).imp id fun h=>hk3.cell (hbB j) h⟩
    case measure=>simp [intOf]
   ·have hcell:wr.cell? ⟨W1.heap.size,3,none⟩=some (.func (.func 377) #[] #[.pointer (some ⟨b 3,0,none⟩)]):=hrow 3 _ rfl
    clear hrow
    obtain⟨fn,tmps,assign,body,hy,hR⟩:=hyy
    change(Instr.yield l #[.int .u8 3,.agg #[.func (.func 377) #[] #[.pointer (some ⟨b 3,0,none⟩)]]]).run _ _=_ at hy
    gi_wp2
    refine hR.mono ?_
    rintro e W3 ⟨rfl,hJ3,hk3⟩
    gi_wp2
    go_roundw
    case rel=>exact⟨3+1,_,by omega,by omega,rfl,by rw [List.map_append,Hpre.out];rfl,hJ3,fun j v h=>hk3.cell hBW (HR j v h),fun j h1 h6=>(Hk j h1 h6).imp id fun h=>hk3.cell (hbB j) h⟩
    case measure=>simp [intOf]
   ·have hcell:wr.cell? ⟨W1.heap.size,4,none⟩=some (.func (.func 377) #[] #[.pointer (some ⟨b 4,0,none⟩)]):=hrow 4 _ rfl
    clear hrow
    obtain⟨fn,tmps,assign,body,hy,hR⟩:=hyy
    change(Instr.yield l #[.int .u8 4,.agg #[.func (.func 377) #[] #[.pointer (some ⟨b 4,0,none⟩)]]]).run _ _=_ at hy
    gi_wp2
    refine hR.mono ?_
    rintro e W3 ⟨rfl,hJ3,hk3⟩
    gi_wp2
    go_roundw
    case rel=>exact⟨4+1,_,by omega,by omega,rfl,by rw [List.map_append,Hpre.out];rfl,hJ3,fun j v h=>hk3.cell hBW (HR j v h),fun j h1 h6=>(Hk j h1 h6).imp id fun h=>hk3.cell (hbB j) h⟩
    case measure=>simp [intOf]
   ·have hcell:wr.cell? ⟨W1.heap.size,5,none⟩=some (.func (.func 377) #[] #[.pointer (some ⟨b 5,0,none⟩)]):=hrow 5 _ rfl
    clear hrow
    obtain⟨fn,tmps,assign,body,hy,hR⟩:=hyy
    change(Instr.yield l #[.int .u8 5,.agg #[.func (.func 377) #[] #[.pointer (some ⟨b 5,0,none⟩)]]]).run _ _=_ at hy
    gi_wp2
    refine hR.mono ?_
    rintro e W3 ⟨rfl,hJ3,hk3⟩
    gi_wp2
    go_roundw
    case rel=>exact⟨5+1,_,by omega,by omega,rfl,by rw [List.map_append,Hpre.out];rfl,hJ3,fun j v h=>hk3.cell hBW (HR j v h),fun j h1 h6=>(Hk j h1 h6).imp id fun h=>hk3.cell (hbB j) h⟩
    case measure=>simp [intOf]
   ·have hcell:wr.cell? ⟨W1.heap.size,6,none⟩=some (.func (.func 376) #[] #[.pointer (some ⟨b 6,0,none⟩)]):=hrow 6 _ rfl
    clear hrow
    obtain⟨fn,tmps,assign,body,hy,hR⟩:=hyy
    change(Instr.yield l #[.int .u8 6,.agg #[.func (.func 376) #[] #[.pointer (some ⟨b 6,0,none⟩)]]]).run _ _=_ at hy
    gi_wp2
    refine hR.mono ?_
    rintro e W3 ⟨rfl,hJ3,hk3⟩
    gi_wp2
    go_roundw
    case rel=>exact⟨6+1,_,by omega,by omega,rfl,by rw [List.map_append,Hpre.out];rfl,hJ3,fun j v h=>hk3.cell hBW (HR j v h),fun j h1 h6=>(Hk j h1 h6).imp id fun h=>hk3.cell (hbB j) h⟩
    case measure=>simp [intOf]
  ·obtain rfl:k=7:=by omega
   gi_wp2
   go_end0
   exact⟨⟨_,rfl⟩,_,hpre,hJk⟩
end
section
open Go.RowKit Go.Sort
attribute [local go_sem] Oper.semAt_some
def K.there(s:Int):Bool:=decide (0≤s)&&decide (s<64)
theorem zfE(s:Int)(w:World):
  cR 287 #[.int .i64 s] w (.bool (K.there s)) fun w'=>w=w':=by
 by_cases h:0≤s
 ·by_cases h2:s<64
  ·have H:=hid (And.intro h h2)
   go_enter func287,ntmps287
   go_wp2
   go_ret
   exact⟨zy (by unfold K.there;have:=H.out;simp;omega),rfl⟩
  ·have H:=hid (And.intro h h2)
   go_enter func287,ntmps287
   go_wp2
   go_ret
   exact⟨zy (by unfold K.there;have:=H.out;simp;omega),rfl⟩
 ·have H:=hid h
  go_enter func287,ntmps287
  go_wp2
  go_ret
  exact⟨zy (by unfold K.there;have:=H.out;simp;omega),rfl⟩
theorem zcP(s:Int)(b:Bool)(w:World)(h:K.there s=b):
 cR 287 #[.int .i64 s] w (.bool b) fun w'=>w=w':=by rw [←h];exact zfE s w
theorem zfZ(w:World):cR 288 #[] w (.func (.func 343) #[] #[]) fun w'=>w=w':=by
 go_enter func288,ntmps288
 go_wp2
 go_ret
 exact⟨rfl,rfl⟩
theorem zbw{n:Nat}{ops:Array Oper}{rest:List Oper}{o:Oper}{a:Act}{w:World}{Q:Exit→Act→World→Prop}(hgd:o.guard=none)(x:Operand)(ho:o.op= .load 31 x)
  (c:Nat→Int) (hx:∃g t fr,a.eval x= .pointer (some ⟨g,0,none⟩)∧w.heap[g]? =some (.cells (posC c) t fr))
  (h:wpListIn Fence.wide n prog ops Q rest (a.put o.dst (.agg (posC c))) w):wpListIn Fence.wide n prog ops Q (o::rest) a w:=by
 obtain⟨g,t,fr,h1,hg⟩:=hx
 refine wpListIn_plain hgd fun K hK=> ?_
 refine⟨fun _ _=>trivial,?_⟩
 have e:Oper.semAt Fence.wide.round a.eval o=execOp a.eval o:=rfl
 rw [e]
 unfold execOp
 simp only [ho,h1,Instr.loadAt,Instr.sureAddr,Sem.run_bind,Sem.run_pure,Result.andThen_ok,run_loadVar_row w g t 31 (posC c) fr _ hg underlying31 rfl (zr c)]
 exact hK _ _ h
namespace K
def oc(color:Int):Int:=(1-color) % 256
def acc(c:Nat→Int)(s color:Int)(ks:List Nat):BitVec 64:=ks.foldl (fun o k=>bOr o (bAnd (hits k (oc color) s (S.all c)) (S.of c color k))) 0#64
def «by»(c:Nat→Int)(s color:Int):BitVec 64:=if K.there s=true∧color≤1 then acc c s color (upTo 7)else 0#64
end K
namespace K
structure ByAt (c:Nat→Int) (s color:Int) (b3 b4 b5 b7 b8:Nat) (w0:World) (v:BitVec 64) (W:World):Prop where
 pos:∃t fr,W.heap[b3]? =some (.cells (posC c) t fr)
 sq:W.cell? ⟨b4,0,none⟩=some (.int .i64 s)
 col:W.cell? ⟨b5,0,none⟩=some (.int .u8 color)
 occ:W.cell? ⟨b8,0,none⟩=some (.int .u64 (U (S.all c)))
 out:W.cell? ⟨b7,0,none⟩=some (.int .u64 (U v))
 fr:W.frozen? ⟨b7,0,none⟩=false
 below:Below w0.heap.size w0 W
variable {c:Nat→Int} {s color:Int} {b3 b4 b5 b7 b8:Nat} {w0:World} {v:BitVec 64}
theorem kept{W W':World}{b:Nat}{v:Value}(h:W.cell? ⟨b,0,none⟩=some v)(hb:Below W.heap.size W W'):W'.cell? ⟨b,0,none⟩=some v:=
 (hb.cell (p:=⟨b,0,none⟩) (World.block_lt_of_cell? W ⟨b,0,none⟩ h)).trans h
theorem ByAt.grows:Grows (ByAt c s color b3 b4 b5 b7 b8 w0 v):=fun W _ h hb=>
 ⟨let⟨t,fr,hg⟩:=h.pos;⟨t,fr,(hb.block _ (Array.getElem?_eq_some_iff.1 hg).1).trans hg⟩,kept h.sq hb,kept h.col hb,kept h.occ hb,kept h.out hb,
  (hb.frozen (p:=⟨b7,0,none⟩) (World.block_lt_of_cell? W ⟨b7,0,none⟩ h.out)).trans h.fr,za h.below hb⟩
theorem ByAt.puts{B:Nat}(hB:w0.heap.size≤B):Puts B (ByAt c s color b3 b4 b5 b7 b8 w0 v):=fun W l o o' h hl ho hn=>by
 have hg:=grownBy_putObj' W l o'
 have hr:∀r,some l=some r→∃o:Obj,W.heap[r]? =some o∧o.isCells=false:=fun r e=>by cases e;exact⟨o,ho,hn⟩
 obtain⟨t,fr,hp⟩:=h.pos
 refine⟨⟨t,fr,(grownBy_keeps_cells hg hr hp rfl).trans hp⟩,cell_kept h.sq hg hr,cell_kept h.col hg hr,cell_kept h.occ hg hr,cell_kept h.out hg hr,(frozen_kept h.out hg hr).trans h.fr,?_⟩
 exact h.below.grown hg h.below.size (fun k e=>by cases e;omega)
theorem Ok.puts{k b B:Nat}:Puts B (Ok k b):=fun W l _ o' h _ ho hn=>h.imp id fun h=>cell_kept h (grownBy_putObj' W l o') (fun r e=>by cases e;exact⟨_,ho,hn⟩)
theorem OkX.puts{x:Nat×Nat}{B:Nat}:Puts B (OkX x):=fun W l _ o' h hl ho hn=>⟨h.1,h.2.1,Ok.puts W l _ o' h.2.2 hl ho hn⟩
theorem Kp.puts{B:Nat}(W0:World):Puts B (Kp B W0):=fun W l _ _ h hl ho hn=>h.trans ⟨by simp,fun b u hb hu hc=>by
 rw [World.putObj_heap_other (fun e=>by subst e;rw [ho]at hu;cases hu;rw [hn]at hc;cases hc)];exact hu⟩
theorem Kp.of_below{B:Nat}{W W':World}(h:Below W.heap.size W W'):Kp B W W':=⟨h.size,fun b _ _ ho _=>(h.block b (Array.getElem?_eq_some_iff.1 ho).1).trans ho⟩
theorem KeepsFrom.of_below{B:Nat}{W W':World}(h:Below W.heap.size W W'):KeepsFrom B W W':=⟨h.size,fun b _ _ ho _=>(h.block b (Array.getElem?_eq_some_iff.1 ho).1).trans ho⟩
theorem Kp.store{B:Nat}{W:World}{b:Nat}(h:b<B)(v:Value):Kp B W (W.setCell ⟨b,0,none⟩ v):=⟨by simp,fun k o hk ho _=>(Below.heap_setCell W ⟨b,0,none⟩ v k (by simp;omega)).trans ho⟩
theorem ByAt.store{W:World}(h:ByAt c s color b3 b4 b5 b7 b8 w0 v W)(hd:b3≠b7∧b4≠b7∧b5≠b7∧b8≠b7∧w0.heap.size≤b7)(v':BitVec 64):ByAt c s color b3 b4 b5 b7 b8 w0 v' (W.setCell ⟨b7,0,none⟩ (.int .u64 (U v'))):=by
 obtain⟨d3,d4,d5,d8,d7⟩:=hd
 have other:∀{b:Nat} {u:Value},b≠b7→W.cell? ⟨b,0,none⟩=some u→(W.setCell ⟨b7,0,none⟩ (.int .u64 (U v'))).cell? ⟨b,0,none⟩=some u:=fun hb hu=>by
  rw [World.cell?_setCell_other _ _ _ _ (by intro e;exact hb (congrArg Addr.block e).symm)];exact hu
 obtain⟨t,fr,hp⟩:=h.pos
 exact⟨⟨t,fr,(Below.heap_setCell W ⟨b7,0,none⟩ _ b3 d3).trans hp⟩,other d4 h.sq,other d5 h.col,other d8 h.occ,World.cell?_setCell_same' _ _ _ (by rw [h.out];rfl),by rw [World.frozen?_setCell];exact h.fr,h.below.setCell (p:=⟨b7,0,none⟩) d7 _⟩
end K
theorem by_in(c:Nat→Int)(s color:Int)(w:World)(hc:BdOk c)(hT:Tb w)(h1:K.there s=true)(h2:color≤1):
  cB 211 #[.agg (posC c),.int .i64 s,.int .u8 color] w (.int .u64 (U (K.by c s color))):=by
 have Hc:=hid hc
 have HT:=hid hT
 have Hs:=hid h1
 clear hc hT h1
 refine(callsIn_wide (n:=6)).1 ?_
 refine callsIn_of_wp_marks func211 rfl trivial ?_ rfl
 simp only [ntmps211,List.size_toArray,List.length_cons,List.length_nil,Nat.reduceAdd,Nat.reduceSub,Array.replicate_succ,Array.replicate_zero,List.push_toArray,List.append_toArray,List.nil_append,List.cons_append]
 gi_wp2_with (first
  |(refine⟨trivial,?_⟩;gi_at_call 287;refine(callsIn_wide.2 (zcP _ true _ Hs)).mono ?_;rintro e w' ⟨rfl,rfl⟩)
  |((with_reducible refine zbw rfl _ rfl c ?_ ?_);·(exact⟨_,_,_,rfl,by repeat(first|exact heap_alloc_new _ _|assumption|refine(Below.heap_alloc _ _ _ (by simp<;>omega)).trans ?_)⟩))
  |(refine⟨trivial,?_⟩;gi_at_call 197;refine(callsIn_wide.2 (zan c _ Hc)).mono ?_;rintro e w1 ⟨rfl,hb1⟩)
  |(refine⟨trivial,?_⟩;gi_at_call 288;refine(callsIn_wide.2 (zfZ _)).mono ?_;rintro e w' ⟨rfl,rfl⟩))
 have hz1:=hb1.size
 simp at hz1
 have hA:K.ByAt c s color w.heap.size (w.heap.size+1) (w.heap.size+1+1) (w.heap.size+1+1+1) w1.heap.size w (K.acc c s color []) (w1.alloc (.cells #[.int .u64 (U (S.all c))] 23)):=by
  have hb2:=za hb1 ((Below.refl _ w1).alloc (Nat.le_refl _) (.cells #[.int .u64 (U (S.all c))] 23))
  have hw:Below w.heap.size w ((((w.alloc (.cells (posC c) 31)).alloc (.cells #[.int .i64 s] 3)).alloc (.cells #[.int .u8 color] 5)).alloc (.cells #[.int .u64 0] 23)):=
   ((bA.alloc sp _).alloc (by simp<;>omega) _).alloc (by simp<;>omega) _
  refine⟨⟨_,_,(hb2.block _ (by simp<;>omega)).trans (by repeat(first|exact heap_alloc_new _ _|refine(Below.heap_alloc _ _ _ (by simp<;>omega)).trans ?_))⟩,K.kept ?_ hb2,K.kept ?_ hb2,?_,K.kept ?_ hb2,(hb2.frozen (p:=⟨w.heap.size+1+1+1,0,none⟩) sp).trans ?_,hw.trans (hb2.mono (by simp<;>omega))⟩
  ·simp [go_sem]
  ·simp [go_sem]
  ·rw [World.cell?_alloc_at _ _ _ _ rfl];rfl
  ·simp [go_sem,K.acc,U]
  ·simp [go_sem]
 have hb8:w1.heap.size<(w1.alloc (.cells #[.int .u64 (U (S.all c))] 23)).heap.size:=by simp
 clear hb1
 revert hA hb8 hz1
 generalize w1.alloc (.cells #[.int .u64 (U (S.all c))] 23)=W0
 generalize w1.heap.size=b8
 intro hz1 hA hb8
 refine zaO (gf:=343) (lb:= #[]) rfl (enters_of func343 kr rfl) K.xenc (fun _=>rfl)
  (fun pre W=>W0.heap.size≤W.heap.size∧K.ByAt c s color w.heap.size (w.heap.size+1) (w.heap.size+1+1) (w.heap.size+1+1+1) b8 w (K.acc c s color (pre.map Prod.fst)) W) K.OkX (K.Kp W0.heap.size)
  (fun x a' W=>∃Bx,W0.heap.size≤Bx∧W.cell? ⟨Bx,0,none⟩=some (K.fn x.1 x.2)∧a'={tmps:= #[.agg (posC c),.int .i64 s,.int .u8 color,.pointer (some ⟨w.heap.size,0,none⟩),.pointer (some ⟨w.heap.size+1,0,none⟩),.pointer (some ⟨w.heap.size+1+1,0,none⟩),.int .u64 0,.pointer (some ⟨w.heap.size+1+1+1,0,none⟩),.pointer (some ⟨b8,0,none⟩),.int .u8 (x.1:Int),.pointer (some ⟨Bx,0,none⟩),.int .i64 s,.bool true,.bool false,.bool false,.int .u8 color,.bool (decide (1<color)),.bool (decide (1<color)),.agg (posC c),.int .u64 (U (S.all c)),.func (.func 343) #[] #[],.int .u8 (x.1:Int),.agg #[K.fn x.1 x.2],undef,undef,undef,undef,undef,undef,undef,undef,undef,undef,undef,undef,undef,undef,undef],defers:=[]})
  (fun xs=>xs.map Prod.fst=K.upTo 7)
  (fun _ _ _ h hb=>⟨Nat.le_trans h.1 hb.size,K.ByAt.grows _ _ h.2 hb⟩) (fun _ _ _ _ _ h hl ho hn=>⟨by simpa using h.1,K.ByAt.puts hA.below.size _ _ _ _ h.2 hl ho hn⟩) (fun _=>K.OkX.puts) ?ax (fun h k=>h.trans k) (fun _=>K.Kp.puts _) (K.Kp.refl _) ?iter ⟨Nat.le_refl _,hA⟩ ?assign ?body ?done
 case ax=>
  rintro x a' W l o o' ⟨Bx,h1,h2,h3⟩ hl ho hn
  exact⟨Bx,h1,cell_kept h2 (grownBy_putObj' W l o') (fun r e=>by cases e;exact⟨o,ho,hn⟩),h3⟩
 case iter=>
  intro l J W hW hJ h0 hY
  exact zdw 5 l W0.heap.size J W om hW.size hJ h0 hY
 case assign=>
  rintro l pre ⟨k,b⟩ W G ⟨hW0,hI⟩ hok hK
  obtain⟨hk1,hk6,hko⟩:=hok
  have HK:=hid hK
  clear hK
  simp only at hk1 hk6
  rcases(show k=1∨k=2∨k=3∨k=4∨k=5∨k=6 by omega)with rfl|rfl|rfl|rfl|rfl|rfl
  all_goals
   simp only [K.xenc,K.fn,K.ptr]
   gi_wp2
   refine HK _ _ (K.KeepsFrom.of_below ?_) (K.Kp.of_below ?_) ⟨by simp<;>omega,K.ByAt.grows _ _ hI ?_⟩ ⟨hk1,hk6,hko.below ?_⟩ ⟨W.heap.size,hW0,?_,rfl⟩
   all_goals first|exact bA|(rw [World.cell?_alloc_at _ _ _ _ rfl];rfl)
 case body=>
  rintro l pre ⟨k,b⟩ a' W hl ⟨hW0,hI⟩ hok ⟨Bx,hBx,hcx,rfl⟩
  obtain⟨hk1,hk6,hko⟩:=hok
  obtain⟨t,fr,hp⟩:=hI.pos
  have hsq:=hI.sq
  have hcol:=hI.col
  have hocc:=hI.occ
  have hout:=hI.out
  have l3:=(Array.getElem?_eq_some_iff.1 hp).1
  have l4:=World.block_lt_of_cell? W _ hsq
  have l5:=World.block_lt_of_cell? W _ hcol
  have l8:=World.block_lt_of_cell? W _ hocc
  have l7:=World.block_lt_of_cell? W _ hout
  have lx:=World.block_lt_of_cell? W _ hcx
  simp only at l4 l5 l8 l7 lx
  have HI:=hid hI
  have HTW:=hid (zi HT hI.below)
  clear hI
  simp only at hk1 hk6
  rcases(show k=1∨k=2∨k=3∨k=4∨k=5∨k=6 by omega)with rfl|rfl|rfl|rfl|rfl|rfl
  ·simp only [K.fn]at hcx⊢
   have Hsn:Hid (K.acc c s color (pre.map Prod.fst++[1])=bOr (K.acc c s color (pre.map Prod.fst)) (bAnd (R.pawn (K.oc color) s) (S.of c color 1))):=by
    refine hid ?_
    simp [K.acc,K.hits]
   refine wpIn_block ?_
   refine zU (N:=14) ?_ kr kr kr ?_
   ·rintro⟨a,w,h⟩
    exact absurd h.1 (by intro e;cases e)
   ·simp only [List.take_succ_cons,List.take_zero,List.drop_succ_cons,List.drop_zero]
    repeat(first
     |(refine BigFrame.wpQuiet_want rfl (fun Kq hKq=>zu _ rfl c ⟨_,t,fr,rfl,fun w' ⟨p,e⟩=>(by rw [e,zG _ _ _ _ l3];exact hp)⟩ (hKq _ ?_)))
     |quiet_step (first
      |(go_at_call 366;exact zd (zgu _ _ _ _))
      |(go_at_call 134;exact zd (zO c _ _ _ Hc))))
    refine wpQuiet_nil ?_
    intro W' hb'
    have hA':=(K.ByAt.grows _ _ HI hb').store ⟨by omega,by omega,by omega,by omega,by omega⟩ (K.acc c s color (pre.map Prod.fst++[1]))
    have ho':=(K.ByAt.grows _ _ HI hb').out
    have hf':=(K.ByAt.grows _ _ HI hb').fr
    have hz':=hb'.size
    rw [Hsn.out]at hA'
    have HA':=hid hA'
    have HB':=hid hb'
    clear hA' hb'
    go_wp2
    refine⟨(K.KeepsFrom.of_below HB').trans ((KeepsOthers.setCell _ _ _).from _),(K.Kp.of_below HB').trans (K.Kp.store om _),by omega,?_⟩
    rw [Hsn.out]
    exact HA'.out
  ·have hkc:=hko.resolve_left (fun e=>absurd e sp)
   have lb:=World.block_lt_of_cell? W _ hkc
   simp only [K.inner]at hkc lb
   simp only [K.fn,K.ptr]at hcx⊢
   have Hsn:Hid (K.acc c s color (pre.map Prod.fst++[2])=bOr (K.acc c s color (pre.map Prod.fst)) (bAnd (R.knight s) (S.of c color 2))):=by
    refine hid ?_
    simp [K.acc,K.hits]
   refine wpIn_block ?_
   refine zU (N:=14) ?_ kr kr kr ?_
   ·rintro⟨a,w,h⟩
    exact absurd h.1 (by intro e;cases e)
   ·simp only [List.take_succ_cons,List.take_zero,List.drop_succ_cons,List.drop_zero]
    repeat(first
     |(refine BigFrame.wpQuiet_want rfl (fun Kq hKq=>zu _ rfl c ⟨_,t,fr,rfl,fun w' ⟨p,e⟩=>(by rw [e,zG _ _ _ _ l3];exact hp)⟩ (hKq _ ?_)))
     |quiet_step (first
      |(go_at_call 376;exact zd (zdO _ _ _ _ _ ((zaY _ _ _ _ _ lb).trans hkc)))
      |(go_at_call 134;exact zd (zO c _ _ _ Hc))))
    refine wpQuiet_nil ?_
    intro W' hb'
    have hA':=(K.ByAt.grows _ _ HI hb').store ⟨by omega,by omega,by omega,by omega,by omega⟩ (K.acc c s color (pre.map Prod.fst++[2]))
    have ho':=(K.ByAt.grows _ _ HI hb').out
    have hf':=(K.ByAt.grows _ _ HI hb').fr
    have hz':=hb'.size
    rw [Hsn.out]at hA'
    have HA':=hid hA'
    have HB':=hid hb'
    clear hA' hb'
    go_wp2
    refine⟨(K.KeepsFrom.of_below HB').trans ((KeepsOthers.setCell _ _ _).from _),(K.Kp.of_below HB').trans (K.Kp.store om _),by omega,?_⟩
    rw [Hsn.out]
    exact HA'.out
  ·have hkc:=hko.resolve_left (fun e=>absurd e sp)
   have lb:=World.block_lt_of_cell? W _ hkc
   simp only [K.inner]at hkc lb
   simp only [K.fn,K.ptr]at hcx⊢
   have Hsn:Hid (K.acc c s color (pre.map Prod.fst++[3])=bOr (K.acc c s color (pre.map Prod.fst)) (bAnd (L.bishop s (S.all c)) (S.of c color 3))):=by
    refine hid ?_
    simp [K.acc,K.hits]
   refine wpIn_block ?_
   refine zU (N:=14) ?_ kr kr kr ?_
   ·rintro⟨a,w,h⟩
    exact absurd h.1 (by intro e;cases e)
   ·simp only [List.take_succ_cons,List.take_zero,List.drop_succ_cons,List.drop_zero]
    repeat(first
     |(refine BigFrame.wpQuiet_want rfl (fun Kq hKq=>zu _ rfl c ⟨_,t,fr,rfl,fun w' ⟨p,e⟩=>(by rw [e,zG _ _ _ _ l3];exact hp)⟩ (hKq _ ?_)))
     |quiet_step (first
      |(go_at_call 377;exact zd (zcY _ _ _ _ _ (zi HTW (below_regrown _ _ _)) ((zaY _ _ _ _ _ lb).trans hkc)))
      |(go_at_call 134;exact zd (zO c _ _ _ Hc))))
    refine wpQuiet_nil ?_
    intro W' hb'
    have hA':=(K.ByAt.grows _ _ HI hb').store ⟨by omega,by omega,by omega,by omega,by omega⟩ (K.acc c s color (pre.map Prod.fst++[3]))
    have ho':=(K.ByAt.grows _ _ HI hb').out
    have hf':=(K.ByAt.grows _ _ HI hb').fr
    have hz':=hb'.size
    rw [Hsn.out]at hA'
    have HA':=hid hA'
    have HB':=hid hb'
    clear hA' hb'
    go_wp2
    refine⟨(K.KeepsFrom.of_below HB').trans ((KeepsOthers.setCell _ _ _).from _),(K.Kp.of_below HB').trans (K.Kp.store om _),by omega,?_⟩
    rw [Hsn.out]
    exact HA'.out
  ·have hkc:=hko.resolve_left (fun e=>absurd e sp)
   have lb:=World.block_lt_of_cell? W _ hkc
   simp only [K.inner]at hkc lb
   simp only [K.fn,K.ptr]at hcx⊢
   have Hsn:Hid (K.acc c s color (pre.map Prod.fst++[4])=bOr (K.acc c s color (pre.map Prod.fst)) (bAnd (L.rook s (S.all c)) (S.of c color 4))):=by
    refine hid ?_
    simp [K.acc,K.hits]
   refine wpIn_block ?_
   refine zU (N:=14) ?_ kr kr kr ?_
   ·rintro⟨a,w,h⟩
    exact absurd h.1 (by intro e;cases e)
   ·simp only [List.take_succ_cons,List.take_zero,List.drop_succ_cons,List.drop_zero]
    repeat(first
     |(refine BigFrame.wpQuiet_want rfl (fun Kq hKq=>zu _ rfl c ⟨_,t,fr,rfl,fun w' ⟨p,e⟩=>(by rw [e,zG _ _ _ _ l3];exact hp)⟩ (hKq _ ?_)))
     |quiet_step (first
      |(go_at_call 377;exact zd (zd2 _ _ _ _ _ (zi HTW (below_regrown _ _ _)) ((zaY _ _ _ _ _ lb).trans hkc)))
      |(go_at_call 134;exact zd (zO c _ _ _ Hc))))
    refine wpQuiet_nil ?_
    intro W' hb'
    have hA':=(K.ByAt.grows _ _ HI hb').store ⟨by omega,by omega,by omega,by omega,by omega⟩ (K.acc c s color (pre.map Prod.fst++[4]))
    have ho':=(K.ByAt.grows _ _ HI hb').out
    have hf':=(K.ByAt.grows _ _ HI hb').fr
    have hz':=hb'.size
    rw [Hsn.out]at hA'
    have HA':=hid hA'
    have HB':=hid hb'
    clear hA' hb'
    go_wp2
    refine⟨(K.KeepsFrom.of_below HB').trans ((KeepsOthers.setCell _ _ _).from _),(K.Kp.of_below HB').trans (K.Kp.store om _),by omega,?_⟩
    rw [Hsn.out]
    exact HA'.out
  ·have hkc:=hko.resolve_left (fun e=>absurd e sp)
   have lb:=World.block_lt_of_cell? W _ hkc
   simp only [K.inner]at hkc lb
   simp only [K.fn,K.ptr]at hcx⊢
   have Hsn:Hid (K.acc c s color (pre.map Prod.fst++[5])=bOr (K.acc c s color (pre.map Prod.fst)) (bAnd (L.queen s (S.all c)) (S.of c color 5))):=by
    refine hid ?_
    simp [K.acc,K.hits]
   refine wpIn_block ?_
   refine zU (N:=14) ?_ kr kr kr ?_
   ·rintro⟨a,w,h⟩
    exact absurd h.1 (by intro e;cases e)
   ·simp only [List.take_succ_cons,List.take_zero,List.drop_succ_cons,List.drop_zero]
    repeat(first
     |(refine BigFrame.wpQuiet_want rfl (fun Kq hKq=>zu _ rfl c ⟨_,t,fr,rfl,fun w' ⟨p,e⟩=>(by rw [e,zG _ _ _ _ l3];exact hp)⟩ (hKq _ ?_)))
     |quiet_step (first
      |(go_at_call 377;exact zd (zdL _ _ _ _ _ (zi HTW (below_regrown _ _ _)) ((zaY _ _ _ _ _ lb).trans hkc)))
      |(go_at_call 134;exact zd (zO c _ _ _ Hc))))
    refine wpQuiet_nil ?_
    intro W' hb'
    have hA':=(K.ByAt.grows _ _ HI hb').store ⟨by omega,by omega,by omega,by omega,by omega⟩ (K.acc c s color (pre.map Prod.fst++[5]))
    have ho':=(K.ByAt.grows _ _ HI hb').out
    have hf':=(K.ByAt.grows _ _ HI hb').fr
    have hz':=hb'.size
    rw [Hsn.out]at hA'
    have HA':=hid hA'
    have HB':=hid hb'
    clear hA' hb'
    go_wp2
    refine⟨(K.KeepsFrom.of_below HB').trans ((KeepsOthers.setCell _ _ _).from _),(K.Kp.of_below HB').trans (K.Kp.store om _),by omega,?_⟩
    rw [Hsn.out]
    exact HA'.out
  ·have hkc:=hko.resolve_left (fun e=>absurd e sp)
   have lb:=World.block_lt_of_cell? W _ hkc
   simp only [K.inner]at hkc lb
   simp only [K.fn,K.ptr]at hcx⊢
   have Hsn:Hid (K.acc c s color (pre.map Prod.fst++[6])=bOr (K.acc c s color (pre.map Prod.fst)) (bAnd (R.king s) (S.of c color 6))):=by
    refine hid ?_
    simp [K.acc,K.hits]
   refine wpIn_block ?_
   refine zU (N:=14) ?_ kr kr kr ?_
   ·rintro⟨a,w,h⟩
    exact absurd h.1 (by intro e;cases e)
   ·simp only [List.take_succ_cons,List.take_zero,List.drop_succ_cons,List.drop_zero]
    repeat(first
     |(refine BigFrame.wpQuiet_want rfl (fun Kq hKq=>zu _ rfl c ⟨_,t,fr,rfl,fun w' ⟨p,e⟩=>(by rw [e,zG _ _ _ _ l3];exact hp)⟩ (hKq _ ?_)))
     |quiet_step (first
      |(go_at_call 376;exact zd (ze7 _ _ _ _ _ ((zaY _ _ _ _ _ lb).trans hkc)))
      |(go_at_call 134;exact zd (zO c _ _ _ Hc))))
    refine wpQuiet_nil ?_
    intro W' hb'
    have hA':=(K.ByAt.grows _ _ HI hb').store ⟨by omega,by omega,by omega,by omega,by omega⟩ (K.acc c s color (pre.map Prod.fst++[6]))
    have ho':=(K.ByAt.grows _ _ HI hb').out
    have hf':=(K.ByAt.grows _ _ HI hb').fr
    have hz':=hb'.size
    rw [Hsn.out]at hA'
    have HA':=hid hA'
    have HB':=hid hb'
    clear hA' hb'
    go_wp2
    refine⟨(K.KeepsFrom.of_below HB').trans ((KeepsOthers.setCell _ _ _).from _),(K.Kp.of_below HB').trans (K.Kp.store om _),by omega,?_⟩
    rw [Hsn.out]
    exact HA'.out
 case done=>
  rintro D xs W hD hS ⟨_,hI⟩ hK
  have h7:=hI.out
  have hB:=hI.below
  have e:=hid (show K.by c s color=K.acc c s color (xs.map Prod.fst) by unfold K.by;rw [if_pos ⟨Hs.out,h2⟩,hS])
  clear hI hA
  gi_wp2
  refine⟨by simp,.inl ⟨_,_,rfl,run_takeDeferred hK,?_⟩⟩
  refine⟨.int .u64 (U (K.by c s color)),?_,rfl,?_⟩
  ·rw [e.out]
   simp [results,results211,go_sem,hS]
  ·exact hB.grown (grownBy_putObj' _ _ _) hB.size (fun k e=>by cases e;omega)
end
section
open Go.RowKit
namespace V
def all:Array Value:= #[.string ⟨#[115,116,97,110,100,97,114,100]⟩,.bool true,.bool true,.bool true,.bool false,.bool true,.int .u8 5,.string ⟨#[99,104,101,115,115,57,54,48]⟩,.bool true,.bool true,.bool true,.bool false,.bool true,.int .u8 5,.string ⟨#[99,114,97,122,121,104,111,117,115,101]⟩,.bool true,.bool true,.bool true,.bool true,.bool true,.int .u8 5,.string ⟨#[97,116,111,109,105,99]⟩,.bool true,.bool true,.bool true,.bool false,.bool true,.int .u8 5,.string ⟨#[97,110,116,105,99,104,101,115,115]⟩,.bool false,.bool false,.bool false,.bool false,.bool true,.int .u8 6,.string ⟨#[116,104,114,101,101,99,104,101,99,107]⟩,.bool true,.bool true,.bool true,.bool false,.bool true,.int .u8 5,.string ⟨#[107,105,110,103,104,105,108,108]⟩,.bool true,.bool true,.bool true,.bool false,.bool true,.int .u8 5,.string ⟨#[104,111,114,100,101]⟩,.bool false,.bool true,.bool true,.bool false,.bool true,.int .u8 5,.string ⟨#[114,97,99,105,110,103]⟩,.bool true,.bool true,.bool false,.bool false,.bool false,.int .u8 0]
def of(v:Nat):Array Value:=
 match v with
 |0=> #[.string ⟨#[115,116,97,110,100,97,114,100]⟩,.bool true,.bool true,.bool true,.bool false,.bool true,.int .u8 5]
 |1=> #[.string ⟨#[99,104,101,115,115,57,54,48]⟩,.bool true,.bool true,.bool true,.bool false,.bool true,.int .u8 5]
 |2=> #[.string ⟨#[99,114,97,122,121,104,111,117,115,101]⟩,.bool true,.bool true,.bool true,.bool true,.bool true,.int .u8 5]
 |3=> #[.string ⟨#[97,116,111,109,105,99]⟩,.bool true,.bool true,.bool true,.bool false,.bool true,.int .u8 5]
 |4=> #[.string ⟨#[97,110,116,105,99,104,101,115,115]⟩,.bool false,.bool false,.bool false,.bool false,.bool true,.int .u8 6]
 |5=> #[.string ⟨#[116,104,114,101,101,99,104,101,99,107]⟩,.bool true,.bool true,.bool true,.bool false,.bool true,.int .u8 5]
 |6=> #[.string ⟨#[107,105,110,103,104,105,108,108]⟩,.bool true,.bool true,.bool true,.bool false,.bool true,.int .u8 5]
 |7=> #[.string ⟨#[104,111,114,100,101]⟩,.bool false,.bool true,.bool true,.bool false,.bool true,.int .u8 5]
 |8=> #[.string ⟨#[114,97,99,105,110,103]⟩,.bool true,.bool true,.bool false,.bool false,.bool false,.int .u8 0]
 |_=> #[.string ⟨#[]⟩,.bool false,.bool false,.bool false,.bool false,.bool false,.int .u8 0]
def royal(v color:Int):Bool:=decide (v<9)&&(decide (color=0∨color=1)&&(decide (v≠4)&&(decide (v≠7)||decide (color=1))))
end V
theorem V.all_one:V.all.all (·.oneCell')=true:=by decide+kernel
theorem infoVar:(prog.info? 287).map (·.size)=some 63:=by kernel_rfl
theorem zcs{ops:Array Oper}{rest:List Oper}{o:Oper}{a:Act}{w:World}{Q:Exit→Act→World→Prop}(hgd:o.guard=none)(x y:Operand)(ho:o.op= .store 287 x y)(g:Nat)
  (hx:a.eval x= .pointer (some ⟨g,0,none⟩)∧a.eval y= .agg V.all∧∃old,w.heap[g]? =some (.cells old 287 (0,0))∧old.size=63)
  (h:wpList prog ops Q rest (a.put o.dst undef) (w.setRow g V.all)):wpList prog ops Q (o::rest) a w:=by
 obtain⟨h1,h2,old,hg,hs⟩:=hx
 exact wpList_store_row hgd _ x y ho g V.all h1 h2 _ old hg (by rw [infoVar];rfl) (by rw [hs];rfl) V.all_one h
theorem zdm(w:World):
  cB 270 #[] w (.agg V.all):=by
 go_enter func270,ntmps270
 go_wp2_with ((with_reducible refine zcs rfl _ _ rfl w.heap.size ?_ ?_);·(exact⟨rfl,rfl,_,(Below.heap_alloc _ _ _ sp).trans (heap_alloc_new _ _),rfl⟩))
 have hold:∀(old:Array Value) (o:Obj),((w.alloc (.cells old 287)).alloc o).heap[w.heap.size]? =some (.cells old 287 (0,0)):=fun old o=>(Below.heap_alloc _ _ _ sp).trans (heap_alloc_new _ _)
 refine bodyPost_ret (v:= .agg V.all) ?_ rfl ⟨rfl,?_⟩
 ·exact results_cell_row results270 _ _ w.heap.size 287 V.all (0,0) _ rfl (setRow_heap _ _ _ _ _ _ (hold _ _)) underlying287 rfl infoVar
 ·exact below_setRow (bA.alloc sp _) (Nat.le_refl _) _
theorem V.at(v:Nat)(h:v<9)(w:World):(Instr.index 287 (.agg V.all) (.int .u8 (v:Int))).run prog w= .ok (.agg (V.of v)) w:=by
 rcases(show v=0∨v=1∨v=2∨v=3∨v=4∨v=5∨v=6∨v=7∨v=8 by omega)with rfl|rfl|rfl|rfl|rfl|rfl|rfl|rfl|rfl<;>kernel_rfl
def V.zero:Array Value:= #[.string ⟨#[]⟩,.bool false,.bool false,.bool false,.bool false,.bool false,.int .u8 0]
theorem of_k(v:Nat)(w:World):
  cB 185 #[.int .u8 (v:Int)] w (.agg (V.of v)):=by
 by_cases h:v<9
 ·have hi:=V.at v h
  have hv:∃s a b c d e l,V.of v= #[.string s,.bool a,.bool b,.bool c,.bool d,.bool e,.int .u8 l]:=by
   match v,h with
   |0,_|1,_|2,_|3,_|4,_|5,_|6,_|7,_|8,_=>exact⟨_,_,_,_,_,_,_,rfl⟩
  obtain⟨s,a,b,c,d,e,l,hv⟩:=hv
  rw [hv]at hi⊢
  clear hv
  have hz:∀w1:World,Below (w.alloc (.cells V.zero 224)).heap.size (w.alloc (.cells V.zero 224)) w1→(∀(j:Nat) v,V.zero[j]? =some v→w1.cell? ⟨w.heap.size,j,none⟩=some v)∧∀j,w1.frozen? ⟨w.heap.size,j,none⟩=false:=by
   intro w1 hb
   have hg:w1.heap[w.heap.size]? =some (.cells V.zero 224 (0,0)):=(hb.block w.heap.size sp).trans (heap_alloc_new _ _)
   exact⟨fun j v h=>by simp only [World.cell?,hg];exact h,fun j=>by simp [World.frozen?,hg]⟩
  go_enter func185,ntmps185
  go_wp2_with (go_at_call 270;refine(zdm _).mono ?_;rintro e w1 ⟨rfl,hb1⟩;obtain⟨zc,zf⟩:=hz _ hb1;have z0:=zc 0 _ rfl;have z1:=zc 1 _ rfl;have z2:=zc 2 _ rfl;have z3:=zc 3 _ rfl;have z4:=zc 4 _ rfl;have z5:=zc 5 _ rfl;have z6:=zc 6 _ rfl)
  refine bodyPost_ret (v:= .agg #[.string s,.bool a,.bool b,.bool c,.bool d,.bool e,.int .u8 l]) ?_ rfl ⟨rfl,?_⟩
  ·simp [results,results185,go_sem,z0,z1,z2,z3,z4,z5,z6]
  ·have k5:Below w.heap.size w w1:=bA.trans (hb1.mono sp)
   exact((((((k5.setCell (p:=⟨w.heap.size,0,none⟩) (Nat.le_refl _) _).setCell (p:=⟨w.heap.size,1,none⟩) (Nat.le_refl _) _).setCell (p:=⟨w.heap.size,2,none⟩) (Nat.le_refl _) _).setCell (p:=⟨w.heap.size,3,none⟩) (Nat.le_refl _) _).setCell (p:=⟨w.heap.size,4,none⟩) (Nat.le_refl _) _).setCell (p:=⟨w.heap.size,5,none⟩) (Nat.le_refl _) _).setCell (p:=⟨w.heap.size,6,none⟩) (Nat.le_refl _) _
 ·have hv:V.of v= #[.string ⟨#[]⟩,.bool false,.bool false,.bool false,.bool false,.bool false,.int .u8 0]:=by
   unfold V.of;split<;>first|omega|rfl
  rw [hv]
  clear hv
  go_enter func185,ntmps185
  go_wp2
  refine bodyPost_ret (v:= .agg #[.string ⟨#[]⟩,.bool false,.bool false,.bool false,.bool false,.bool false,.int .u8 0]) ?_ rfl ⟨rfl,(Below.refl _ _).alloc (Nat.le_refl _) _⟩
  simp [results,results185,go_sem]
theorem zgZ(v:Nat)(color:Int)(w:World)(h0:0≤color):
  cB 91 #[.int .u8 (v:Int),.int .u8 color] w (.bool (V.royal v color)):=by
 by_cases h:color≤1
 ·have hv:∃s a b c d e l,V.of v= #[.string s,.bool a,.bool b,.bool c,.bool d,.bool e,.int .u8 l]∧V.royal v 0=a∧V.royal v 1=b:=by
   by_cases h9:v<9
   ·match v,h9 with
    |0,_|1,_|2,_|3,_|4,_|5,_|6,_|7,_|8,_=>exact⟨_,_,_,_,_,_,_,rfl,rfl,rfl⟩
   ·refine⟨_,_,_,_,_,_,_,(by unfold V.of;split<;>first|omega|rfl),?_,?_⟩<;>(unfold V.royal;rw [decide_eq_false om];rfl)
  obtain⟨s,a,b,c,d,e,l,hv,r0,r1⟩:=hv
  have hk:=fun w=>of_k v w
  rw [hv]at hk
  clear hv
  have H:=hid hk
  clear hk
  have hfd:∀w,(Instr.field 224 (.agg #[.string s,.bool a,.bool b,.bool c,.bool d,.bool e,.int .u8 l]) 1).run prog w= .ok (.agg #[.bool a,.bool b]) w:=fun _=>by kernel_rfl
  have hi0:∀w,(Instr.index 222 (.agg #[.bool a,.bool b]) (.int .u8 0)).run prog w= .ok (.bool a) w:=fun _=>by kernel_rfl
  have hi1:∀w,(Instr.index 222 (.agg #[.bool a,.bool b]) (.int .u8 1)).run prog w= .ok (.bool b) w:=fun _=>by kernel_rfl
  rcases(show color=0∨color=1 by omega)with rfl|rfl
  ·rw [r0]
   clear r0 r1
   go_enter func91,ntmps91
   go_wp2_with (go_at_call 185;refine(H _).mono ?_;rintro e w1 ⟨rfl,hb1⟩)
   go_ret
   exact⟨rfl,hb1⟩
  ·rw [r1]
   clear r0 r1
   go_enter func91,ntmps91
   go_wp2_with (go_at_call 185;refine(H _).mono ?_;rintro e w1 ⟨rfl,hb1⟩)
   go_ret
   exact⟨rfl,hb1⟩
 ·have e:=hid (show V.royal v color=false by unfold V.royal;rw [decide_eq_false (p:=color=0∨color=1) om];simp)
  go_enter func91,ntmps91
  go_wp2
  go_ret
  exact⟨zy e.out.symm,Below.refl _ _⟩
end
section
open Go.RowKit Go.Sort
theorem zbD{ops:Array Oper}{rest:List Oper}{o:Oper}{a:Act}{w:World}{Q:Exit→Act→World→Prop}(hw:Region.wanted o (yielded ops a.tmps)=true)(x:Operand)(ho:o.op= .load 31 x)
  (c:Nat→Int) (hx:∃g t fr,a.eval x= .pointer (some ⟨g,0,none⟩)∧w.heap[g]? =some (.cells (posC c) t fr))
  (h:wpList prog ops Q rest (a.put o.dst (.agg (posC c))) w):wpList prog ops Q (o::rest) a w:=by
 obtain⟨g,t,fr,h1,hg⟩:=hx
 refine wpList_step fun K hK=> ?_
 rw [if_pos hw]
 exact wp_load_row 31 x ho g h1 t (posC c) fr _ hg underlying31 rfl (zr c) (hK _ _ h)
end
end Go.Proofs.YtbakeajgolhkgaaGreatDoor
