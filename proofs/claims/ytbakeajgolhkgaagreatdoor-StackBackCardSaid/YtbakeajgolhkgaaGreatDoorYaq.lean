import Derived.Test.YtbakeajgolhkgaaGreatDoorYam
import Derived.Test.YtbakeajgolhkgaaGreatDoorYan
import Derived.Test.YtbakeajgolhkgaaGreatDoorYap
set_option maxRecDepth 100000
set_option maxHeartbeats 8000000
open Go.Lib (hid)
namespace Go.Proofs.YtbakeajgolhkgaaGreatDoor
open Go.Proofs.Tryz
section
open Go.RowKit Go.Sort
namespace T
structure Is (c:Nat→Int) (t d k s:Nat):Prop where
 t2:t<2
 d2:d<2
 turn:c 78=(t:Int)
 khome:56*t≤k∧k≤56*t+7
 shome:56*t≤s∧s≤56*t+7
 king:c (1+k)=8*(t:Int)+6
 rook:c (1+s)=8*(t:Int)+4
 ne:s≠k
 dir:k<s↔d=0
 right:c (rightAt t d)=(s:Int)-56*t
theorem zi0(c:Nat→Int)(t d k s:Nat)(ht:t<2)(hd:d<2)(hct:c 78=(t:Int))(hk:56*t≤k∧k≤56*t+7)(hking:c (1+k)=8*(t:Int)+6)(h:cand c t d k=some s):Is c t d k s:=by
 unfold cand at h
 by_cases hf:c (rightAt t d)<0∨7<c (rightAt t d)
 ·rw [if_pos hf]at h;cases h
 ·rw [if_neg hf]at h
  split at h
  ·rename_i hr
   cases h
   rw [Bool.and_eq_true]at hr
   have hr:=hr.1
   unfold rookOk at hr
   simp only [Bool.and_eq_true,beq_iff_eq,bne_iff_ne]at hr
   obtain⟨h1,h2,h3⟩:=hr
   have hrk:((rk c t d:Nat):Int)=56*t+c (rightAt t d):=by unfold rk;omega
   refine⟨ht,hd,hct,hk,by omega,hking,h1,fun e=>h3 (by rw [e]),?_,by omega⟩
   have h2':(k<rk c t d)=(d=0):=by
    have:=congrArg (fun b=>b=true) h2
    simpa using this
   rw [h2']
  ·cases h
theorem clist_mem(c:Nat→Int)(x:Nat×Nat)(hc:PosOk c)(h:x∈clist c):∃t d,Is c t d x.1 x.2:=by
 unfold clist at h
 split at h
 ·rename_i hh
  obtain⟨⟨h0,h1⟩,hv,hf,hr⟩:=hh
  obtain⟨t,ht⟩:∃t:Nat,c 78=(t:Int):=⟨(c 78).toNat,by omega⟩
  rw [ht]at h hf hr h1
  rw [Int.toNat_natCast]at h hr
  have hcb:=zw hc
  rw [zcS c (t:Int) hcb]at h hf hr
  obtain⟨hi,hk64⟩:=zik c (t:Int) hf
  obtain⟨k,hk⟩:∃k:Nat,D.find c (t:Int) 6=(k:Int):=⟨(D.find c (t:Int) 6).toNat,by omega⟩
  rw [hk,Int.toNat_natCast]at h hr hi hk64
  rw [is_val hcb k hk64 _ _ om om,beq_iff_eq]at hi
  obtain⟨d,hd,hx⟩:=List.mem_filterMap.1 h
  rw [Option.map_eq_some_iff]at hx
  obtain⟨s,hs,rfl⟩:=hx
  exact⟨t,d,zi0 c t d k s om (by simp at hd;omega) ht om hi hs⟩
 ·cases h
theorem zcJ{β:Type}(f:Nat→Option β):([1,0].filterMap f).length≤2:=List.length_filterMap_le f [1,0]
theorem clist_len(c:Nat→Int):(clist c).length≤2:=by
 unfold clist
 split
 ·exact zcJ _
 ·simp
theorem side_is{c:Nat→Int}{t d k s:Nat}(h:Is c t d k s):side c (k:Int) (s:Int) true=(d:Int):=by
 have h1:=h.t2
 have h2:=h.khome
 have h3:=h.shome
 have h4:=h.ne
 have h5:=h.dir
 have h6:=h.d2
 unfold side
 rw [h.turn,Int.toNat_natCast]
 unfold inHome
 rw [if_pos ⟨by omega,rfl,by omega,by simp;omega,by simp;omega⟩]
 by_cases hl:k<s
 ·rw [if_pos om,h5.1 hl];rfl
 ·have:d=1:=by
   have:=fun e=>hl (h5.2 e)
   omega
  rw [if_neg om,this];rfl
end T
end
section
open Go.RowKit Go.Sort
attribute [local go_sem] Oper.semAt_some
theorem zfA(w:World):cB 88 #[] w (.agg #[.int .u8 4,.int .u8 2,.int .u8 3,.int .u8 5,.int .u8 6,.int .u8 3,.int .u8 2,.int .u8 4]):=by
 go_enter func88,ntmps88
 go_wp2
 have hR:=RowAt.new w #[.int .u8 4,.int .u8 2,.int .u8 3,.int .u8 5,.int .u8 6,.int .u8 3,.int .u8 2,.int .u8 4] 143
 exact bodyPost_ret (v:= .agg #[.int .u8 4,.int .u8 2,.int .u8 3,.int .u8 5,.int .u8 6,.int .u8 3,.int .u8 2,.int .u8 4]) (results_cell_row results88 _ _ w.heap.size 143 _ (0,0) _ rfl hR.heap underlying143 rfl kr) rfl ⟨rfl,(Below.refl _ _).alloc (Nat.le_refl _) _⟩
theorem zdM(k:Int)(w:World)(h0:0≤k)(h1:k≤6):cR 169 #[.int .u8 k] w (.int .u8 (8+k)) fun w'=>w=w':=by
 have hw:IntKind.u8.wrap (8+k)=8+k:=by rw [IntKind.wrap_u8];omega
 go_enter func169,ntmps169
 go_wp2
 go_ret
 exact⟨rfl,rfl⟩
namespace V
def castles(v:Int):Bool:=decide (v<9)&&(v !=4&&v !=8)
def none'(v:Int):Nat→Int:=fun i=>if i=0 then v else if i=79 then-1 else if i=80 then-1 else if i=81 then-1 else if i=82 then-1 else if i=83 then-1 else if i=87 then 1 else 0
def file(c:Nat→Int)(n:Nat)(k:Int):Nat→Int:=upd (upd (upd (upd c (1+n) k) (9+n) 1) (57+n) (8+k)) (49+n) 9
def rooks(c:Nat→Int)(n:Nat):Nat→Int:=if c 80<0 then upd (upd c 80 n) 82 n else upd (upd c 79 n) 81 n
def bothTo(v:Int)(l:Nat→Int):Nat→Nat→Int
 |0=>none' v
 |n+1=>if castles v=true∧l n=4 then rooks (file (bothTo v l n) n (l n)) n else file (bothTo v l n) n (l n)
end V
theorem zdn(v:Nat)(w:World):
  cB 170 #[.int .u8 (v:Int)] w (.bool (V.castles v)):=by
 have hv:∃s a b c d e l,V.of v= #[.string s,.bool a,.bool b,.bool c,.bool d,.bool e,.int .u8 l]∧V.castles v=c:=by
  by_cases h9:v<9
  ·match v,h9 with
   |0,_|1,_|2,_|3,_|4,_|5,_|6,_|7,_|8,_=>exact⟨_,_,_,_,_,_,_,rfl,rfl⟩
  ·refine⟨_,_,_,_,_,_,_,(by unfold V.of;split<;>first|omega|rfl),?_⟩<;>(unfold V.castles;rw [decide_eq_false om];rfl)
 obtain⟨s,a,b,c,d,e,l,hv,r0⟩:=hv
 have hk:=fun w=>of_k v w
 rw [hv]at hk
 rw [r0]
 clear hv r0
 have H:=hid hk
 clear hk
 have hfd:∀w,(Instr.field 224 (.agg #[.string s,.bool a,.bool b,.bool c,.bool d,.bool e,.int .u8 l]) 2).run prog w= .ok (.bool c) w:=fun _=>by kernel_rfl
 go_enter func170,ntmps170
 go_wp2_with (go_at_call 185;refine(H _).mono ?_;rintro e w1 ⟨rfl,hb1⟩)
 go_ret
 exact⟨rfl,hb1⟩
theorem zhH(v:Int)(w:World):cB 168 #[.int .u8 v] w (.agg (posC (V.none' v))):=by
 go_enter func168,ntmps168
 go_wp2_with (refine zn rfl _ _ rfl ⟨w.heap.size,V.none' v,rfl,kr,⟨_,heap_alloc_new _ _,kr⟩,?_⟩;intro W hP hq)
 exact bodyPost_ret (v:= .agg (posC (V.none' v))) (results_cell_row results168 _ _ w.heap.size 31 _ (0,0) _ rfl hq.heap underlying31 rfl (zr _)) rfl ⟨rfl,hP.below bA (Nat.le_refl _)⟩
theorem zbY(v:Nat)(w:World):
  cB 196 #[.int .u8 (v:Int)] w (.bool (decide (v=2))):=by
 have hv:∃s a b c d e l,V.of v= #[.string s,.bool a,.bool b,.bool c,.bool d,.bool e,.int .u8 l]∧decide (v=2)=d:=by
  by_cases h9:v<9
  ·match v,h9 with
   |0,_|1,_|2,_|3,_|4,_|5,_|6,_|7,_|8,_=>exact⟨_,_,_,_,_,_,_,rfl,rfl⟩
  ·refine⟨_,_,_,_,_,_,_,(by unfold V.of;split<;>first|omega|rfl),?_⟩<;>(rw [decide_eq_false om])
 obtain⟨s,a,b,c,d,e,l,hv,r0⟩:=hv
 have hk:=fun w=>of_k v w
 rw [hv]at hk
 rw [r0]
 clear hv r0
 have H:=hid hk
 clear hk
 have hfd:∀w,(Instr.field 224 (.agg #[.string s,.bool a,.bool b,.bool c,.bool d,.bool e,.int .u8 l]) 3).run prog w= .ok (.bool d) w:=fun _=>by kernel_rfl
 go_enter func196,ntmps196
 go_wp2_with (go_at_call 185;refine(H _).mono ?_;rintro e w1 ⟨rfl,hb1⟩)
 go_ret
 exact⟨rfl,hb1⟩
end
section
open Go.RowKit Go.Sort
theorem A.seg_rooks(q c:Nat→Int)(m:Mv)(t:Int)(i:Nat)(hi:i=79∨i=81)(x y:Int):A.seg (A.mvr q c m t) i [.int .i8 x,.int .i8 y]=A.mvr (upd (upd q i x) (i+1) y) c m t:=by
 rcases hi with rfl|rfl
 ·have h1:=A.mvr_upd q c m t 79 x dc
  have h2:=A.mvr_upd (upd q 79 x) c m t 80 y dc
  rw [show pk 79= .i8 from rfl]at h1
  rw [show pk 80= .i8 from rfl]at h2
  unfold A.seg A.seg A.seg
  rw [h1,h2]
 ·have h1:=A.mvr_upd q c m t 81 x dc
  have h2:=A.mvr_upd (upd q 81 x) c m t 82 y dc
  rw [show pk 81= .i8 from rfl]at h1
  rw [show pk 82= .i8 from rfl]at h2
  unfold A.seg A.seg A.seg
  rw [h1,h2]
theorem A.size_i2A:(prog.info? 27).map (·.size)=some 2:=by kernel_rfl
theorem zdF{ops:Array Oper}{rest:List Oper}{o:Oper}{a:Act}{w:World}{Q:Exit→Act→World→Prop}(hgd:o.guard=none)(x y:Operand)(ho:o.op= .store 27 x y)
  (h:∃(b i:Nat) (q c:Nat→Int) (m:Mv) (t n k:Int),a.eval x= .pointer (some ⟨b,i,none⟩)∧a.eval y= .agg #[.int .i8 n,.int .i8 k]∧(i=79∨i=81)∧A.MvAt w b q c m t∧
   ∀W':World,Put b w W'→A.MvAt W' b (upd (upd q i n) (i+1) k) c m t→wpList prog ops Q rest (a.put o.dst undef) W'):wpList prog ops Q (o::rest) a w:=by
 obtain⟨b,i,q,c,m,t,n,k,hx,hy,hi,hp,h⟩:=h
 refine wpList_plain hgd fun _ hK=>wp_store_mid 27 x y ho b i #[.int .i8 n,.int .i8 k] hx hy (fun j hj=> ?_) A.size_i2A (by simp [Value.oneCell']) (hK _ _ (h _ (A.put_cells b _ _ _) ⟨?_⟩))
 ·have hj':j<2:=hj
  exact⟨by rw [hp.atq (i+j) om _ rfl];rfl,hp.frozen _⟩
 ·rw [←A.seg_rooks q c m t i hi n k]
  exact A.row_cells b _ _ _ _ _ hp.row
end
end Go.Proofs.YtbakeajgolhkgaaGreatDoor
