import Derived.WalkKit
import Derived.WalkSpells
import Derived.WalkLawsBesides
import Derived.Lib.Hide
import Derived.Deep.QuietTactic
import Derived.BigQuiet
import Derived.Lib.QuietBelow
import Derived.StillTail
import Derived.Laws.BitsAllLaws
import Derived.ProofKit
import Derived.OpenShut
import Derived.Deep.Modes
import Derived.Deep.LoopGhost
import Derived.Deep.CutBlock
import Derived.Deep.RegionHeld3
import Derived.Shelf.Small.Bits
import Derived.Shelf.Strconv.Itoa0
import Derived.Test.YtbakeajgolhkgaaGreatDoorRows
import Derived.Test.YtbakeajgolhkgaaGreatDoorProg
import Derived.Test.YtbakeajgolhkgaaGreatDoorZk
set_option maxRecDepth 100000
set_option maxHeartbeats 8000000
open Go.Lib (hid)
namespace Go.Proofs.YtbakeajgolhkgaaGreatDoor
open Go.Proofs.Tryz
section
open Go.RowKit
theorem ret_int{k:IntKind}{a b:Int}(h:a=b):Ending.returned (.int k a)= .returned (.int k b):=by rw [h]
theorem zy{a b:Bool}(h:a=b):Ending.returned (.bool a)= .returned (.bool b):=by rw [h]
theorem zim{a b:ByteArray}(h:a=b):Ending.returned (.string a)= .returned (.string b):=by rw [h]
theorem za{w a b:World}(h:Below w.heap.size w a)(k:Below a.heap.size a b):Below w.heap.size w b:=h.trans (k.mono h.size)
theorem zJ{P:Program}{f:FuncId}{args:Array Value}{w:World}{n:Nat}{v:Value}
  (h:Calls P f args (w.drewN n) fun e w'=>e= .returned v∧w.drewN n=w'):Calls P f args (w.drewN n) fun e w''=>e= .returned v∧∃m,w''=w.drewN m:=
 Calls.quiet_of_same (h.mono fun _ _ ⟨a,b⟩=>⟨a,b.symm⟩)
theorem below_drewN{B:Nat}{w w':World}(h:Below B w w')(n:Nat):Below B w (w'.drewN n):=⟨h.os,h.tape,h.output,h.size,h.block⟩
theorem all8(q:Int→Prop)(h:∀n:Fin 256,q ((n.val:Nat):Int))(p:Int)(h0:0≤p)(h1:p≤255):q p:=by
 have:=h ⟨p.toNat,by omega⟩
 simpa [Int.toNat_of_nonneg h0]using this
end
section
open Go.RowKit Go.Sort
@[go_sem] theorem zaY (w : World) (d : Nat) (os : Array Obj) (b o : Nat) (h : b < w.heap.size) : (grow (redrawn w d) os).cell? ⟨b,o,none⟩ = w.cell? ⟨b,o,none⟩ :=
 (below_regrown w d os).cell (p:=⟨b,o,none⟩) h
theorem zG(w:World)(d:Nat)(os:Array Obj)(b:Nat)(h:b<w.heap.size):(grow (redrawn w d) os).heap[b]? =w.heap[b]? :=
 (below_regrown w d os).block b h
theorem zd{P:Program}{f:FuncId}{args:Array Value}{w:World}{d:Nat}{os:Array Obj}{v:Value}
  (h:Calls P f args (grow (redrawn w d) os) fun e w'=>e= .returned v∧Below (grow (redrawn w d) os).heap.size (grow (redrawn w d) os) w'):Calls P f args (grow (redrawn w d) os) fun e w''=>e= .returned v∧∃p:Regrown,w''=grow (redrawn w p.d) p.os:=
 Calls.regrown_of h
theorem zal{P:Program}{id:Nat}{Q:Exit→Act→World→Prop}{a:Act}{w:World}{l:List Oper}(hm:P.follows .mixedOrders=true)(hB:Region.lexB .any l.toArray=true)
  (h:wpQuiet P l.toArray (fun w'=>∃p:Regrown,w'=grow (redrawn w p.d) p.os) (fun a'=>∀w',Below w.heap.size w w'→Q .normal a' w') l a):(Code.region id l.toArray true).wp P Q a w:=by
 refine wp_region_quiet_below hm hB ?_
 have e:(fun a'=>∀w',(∃p:Regrown,w'=grow (redrawn w p.d) p.os)→Q .normal a' w')=(fun a'=>∀w',Below w.heap.size w w'→Q .normal a' w'):=by
  funext a'
  refine propext ⟨fun h w' hb=>h w' (regrown_of_below hb),fun h w' ⟨p,hp⟩=>h w' (by rw [hp];exact below_regrown _ _ _)⟩
 rw [e]
 exact h
section
variable {P:Program} {Q:Exit→Act→World→Prop} {C:World→Prop}
def tailOk(l:List Oper)(n:Nat):Bool:=
 Region.lexB .any (l.take n).toArray&&decide (n<l.length)&&Region.sinkB .any l.toArray n&&Region.chainB .any l.toArray n&&
 (List.range n).all (fun i=>match l[i]? with|some o=>o.after.all (fun e=>decide (e.on<i))&&(match o.guard with|none=>true|some (j,_)=>decide (j<n))|none=>false)&&
 Region.seqB .any l.toArray (l.length-n) n (Array.replicate n true++Array.replicate (l.length-n) false)
theorem ze9{ops:Array Oper}:∀(f:Nat) (listed:Array Bool) (a:Act) (w:World),wpAny P .any ops Q f listed a w→wpAny P .any ops Q (f+1) listed a w:=by
 intro f
 induction f with
 |zero=>
  intro listed a w h
  exact⟨fun _=>h.2,fun i hi=>by rw [h.1]at hi;cases hi⟩
 |succ f ih=>
  intro listed a w h
  exact⟨h.1,fun i hi=>wpOp_mono (fun a' w' h'=>ih _ a' w' h') (h.2 i hi)⟩
theorem zej{ops:Array Oper}{f:Nat}(g:Nat){listed:Array Bool}{a:Act}{w:World}(h:wpAny P .any ops Q f listed a w):wpAny P .any ops Q (g+f) listed a w:=by
 induction g with
 |zero=>rwa [Nat.zero_add]
 |succ g ih=>rw [Nat.add_right_comm];exact ze9 _ _ _ _ ih
theorem getD_take(listed:Array Bool)(n i:Nat)(d:Bool)(h:i<n):(listed.take n).getD i d=listed.getD i d:=by
 rw [Array.getD_eq_getD_getElem?,Array.getD_eq_getD_getElem?,Array.take,Array.getElem?_extract]
 by_cases hs:i<listed.size
 ·rw [if_pos om,Nat.zero_add]
 ·rw [if_neg om,Array.getElem?_eq_none om]
theorem zcO(listed:Array Bool)(n i:Nat)(d:Bool)(h:n≤i):(listed.take n).getD i d=d:=by
 rw [Array.getD_eq_getD_getElem?,Array.getElem?_eq_none (by simp;omega)];rfl
theorem take_set(listed:Array Bool)(n i:Nat)(h:i<n):(listed.setIfInBounds i true).take n=(listed.take n).setIfInBounds i true:=by
 apply Array.ext_getElem?
 intro j
 rw [Array.take,Array.getElem?_extract,Array.getElem?_setIfInBounds,Array.getElem?_setIfInBounds,Array.take,Array.getElem?_extract,Array.size_setIfInBounds,Array.size_extract]
 by_cases hij:i=j
 ·subst hij
  rw [if_pos rfl]
  by_cases h1:i<min n listed.size-0
  ·rw [if_pos h1,if_pos h1,if_pos om,if_pos om]
  ·rw [if_neg h1,if_neg h1]
 ·rw [if_neg hij]
  by_cases h1:j<min n listed.size-0
  ·rw [if_pos h1,if_pos h1,if_neg om]
  ·rw [if_neg h1,if_neg h1]
theorem zbO{l:List Oper}{n:Nat}{listed:Array Bool}{i:Nat}(hi:i<n)(inv:HeadInv .any l.toArray n listed):
  i∈Region.ready .any (l.take n).toArray (listed.take n)↔i∈Region.ready .any l.toArray listed:=by
 rw [mem_ready,mem_ready]
 have e1:(l.take n).toArray[i]? =l.toArray[i]?:=by simp [hi]
 rw [e1,getD_take _ _ _ _ hi]
 have e2:∀j,(listed.take n).getD j false=listed.getD j false:=by
  intro j
  by_cases hj:j<n
  ·exact getD_take _ _ _ _ hj
  ·rw [zcO _ _ _ _ om]
   by_cases hs:j<l.toArray.size
   ·exact(getD_both (inv.tail j om hs)).symm
   ·rw [Array.getD_eq_getD_getElem?,Array.getElem?_eq_none (by rw [inv.size];omega)];rfl
 simp only [e2]
theorem zgT{l:List Oper}{n:Nat}{listed:Array Bool}(hn:n<l.length)(hE:(List.range n).all (fun i=>match l[i]? with|some o=>o.after.all (fun e=>decide (e.on<i))&&(match o.guard with|none=>true|some (j,_)=>decide (j<n))|none=>false)=true)
  (inv:HeadInv .any l.toArray n listed) (h:∀i,i<n→i∉Region.ready .any l.toArray listed):∀i,i<n→listed.getD i false=true:=by
 intro i
 induction i using Nat.strongRecOn with
 |_ i ih=>
  intro hi
  cases hc:listed.getD i false with
  |true=>rfl
  |false=>
   exfalso
   refine h i hi (mem_ready.2 ⟨getD_in (by rw [inv.size];simp;omega) hc,?_⟩)
   have h0:l[i]? =some l[i]:=List.getElem?_eq_getElem om
   refine⟨l[i],by simp,fun e he _=> ?_⟩
   have hA:=List.all_eq_true.1 hE i (by simpa using hi)
   rw [h0]at hA
   simp only [Bool.and_eq_true]at hA
   have:=Array.all_eq_true'.1 hA.1 e he
   have hlt:e.on<i:=by simpa using this
   exact ih e.on hlt om
theorem zdl{l:List Oper}{n:Nat}{listed:Array Bool}(hn:n<l.length)(inv:HeadInv .any l.toArray n listed)(h:∀i,i<n→listed.getD i false=true):
  listed=Array.replicate n true++Array.replicate (l.length-n) false:=by
 have hsz:listed.size=l.length:=by rw [inv.size];simp
 apply Array.ext
 ·simp;omega
 ·intro i h1 h2
  have e:listed.getD i false=listed[i]:=by simp [Array.getD,h1]
  by_cases hi:i<n
  ·have:=h i hi
   rw [e]at this
   rw [this,Array.getElem_append_left (by simpa using hi)]
   simp
  ·have:=getD_both (inv.tail i om (by simpa [hsz]using h1))
   rw [e]at this
   rw [this,Array.getElem_append_right (by simp;omega)]
   simp
theorem zdA{l:List Oper}{n:Nat}(hn:n<l.length)(hE:(List.range n).all (fun i=>match l[i]? with|some o=>o.after.all (fun e=>decide (e.on<i))&&(match o.guard with|none=>true|some (j,_)=>decide (j<n))|none=>false)=true){K:Act→Prop}:
  ∀(k:Nat) (a:Act),k≤n→wpQuiet P l.toArray C K ((l.take n).drop k) a→wpQuiet P (l.take n).toArray C K ((l.take n).drop k) a:=by
 intro k
 generalize hd:n-k=d
 induction d generalizing k with
 |zero=>
  intro a hk h
  have:(l.take n).drop k=[]:=List.drop_eq_nil_of_le (by simp;omega)
  rw [this]at h⊢
  exact h
 |succ d ih=>
  intro a hk h
  have hkn:k<n:=by omega
  have h0:l[k]? =some l[k]:=List.getElem?_eq_getElem om
  have hcons:(l.take n).drop k=l[k]::(l.take n).drop (k+1):=by
   rw [List.drop_eq_getElem_cons (by simp;omega)]
   simp
  rw [hcons]at h⊢
  have hA:=List.all_eq_true.1 hE k (by simpa using hkn)
  rw [h0]at hA
  simp only [Bool.and_eq_true]at hA
  have hw:Region.wanted l[k] (yielded (l.take n).toArray a.tmps)=Region.wanted l[k] (yielded l.toArray a.tmps):=by
   unfold Region.wanted
   split
   ·rfl
   ·rename_i j want hg
    have hj:j<n:=by
     have:=hA.2
     rw [hg]at this
     simpa using this
    have:yielded (l.take n).toArray a.tmps j=yielded l.toArray a.tmps j:=by
     unfold yielded
     have e:(l.take n).toArray[j]? =l.toArray[j]?:=by simp [hj]
     rw [e]
    rw [this]
  unfold wpQuiet at h⊢
  rw [hw]
  split
  ·rename_i hx
   rw [if_pos hx]at h
   exact Oper.quiet_mono (fun a' h'=>ih (k+1) om a' om h') h
  ·rename_i hx
   rw [if_neg hx]at h
   exact ih (k+1) om _ om h
theorem zhz{l:List Oper}{n:Nat}(hn:n<l.length)(hs:Region.sinkB .any l.toArray n=true)(hc:Region.chainB .any l.toArray n=true)
  (hE:(List.range n).all (fun i=>match l[i]? with|some o=>o.after.all (fun e=>decide (e.on<i))&&(match o.guard with|none=>true|some (j,_)=>decide (j<n))|none=>false)=true)
  (hq:Region.seqB .any l.toArray (l.length-n) n (Array.replicate n true++Array.replicate (l.length-n) false)=true):
  ∀(g:Nat) (listed:Array Bool) (a:Act) (w:World),HeadInv .any l.toArray n listed→C w→
   wpAnyQ P .any (l.take n).toArray C (fun a'=>∀w',C w'→wpList P l.toArray Q (l.drop n) a' w') g (listed.take n) a→
   wpAny P .any l.toArray Q (g+(l.length-n)) listed a w:=by
 --all of the head is listed:the tail,in the text's order
 have fin:∀(g:Nat) (listed:Array Bool) (a:Act) (w:World),HeadInv .any l.toArray n listed→(∀i,i<n→i∉Region.ready .any l.toArray listed)→
   wpList P l.toArray Q (l.drop n) a w→wpAny P .any l.toArray Q (g+(l.length-n)) listed a w:=by
  intro g listed a w inv hr h
  have hl:=zdl hn inv (zgT hn hE inv hr)
  subst hl
  have:=wpAny_of_seq (md:= .any) (Q':=Q) (l.drop n) n _ a w (fun j=>by simp [List.getElem?_drop]) (by rw [List.length_drop];exact hq) h
  rw [List.length_drop]at this
  exact zej g this
 intro g
 induction g with
 |zero=>
  intro listed a w inv hw h
  refine fin 0 listed a w inv (fun i hi hr=> ?_) (h.2 w hw)
  rw [←zbO hi inv,h.1]at hr
  cases hr
 |succ g ih=>
  intro listed a w inv hw h
  by_cases hr:∀i,i<n→i∉Region.ready .any l.toArray listed
  ·refine fin (g+1) listed a w inv hr (h.1 ?_ w hw)
   apply List.eq_nil_iff_forall_not_mem.2
   intro i hi
   have hin:i<n:=by
    obtain⟨_,o,ho,_⟩:=mem_ready.1 hi
    have:=(Array.getElem?_eq_some_iff.1 ho).1
    simp at this
    omega
   exact hr i hin ((zbO hin inv).1 hi)
  ·have⟨i0,hi0⟩:∃i,i<n∧i∈Region.ready .any l.toArray listed:=by
    apply Classical.byContradiction
    intro hno
    exact hr fun i hi hm=>hno ⟨i,hi,hm⟩
   rw [show g+1+(l.length-n)=(g+(l.length-n))+1 by omega]
   refine⟨(fun h0=>by rw [h0]at hi0;cases hi0.2),fun i hi=> ?_⟩
   have hin:i<n:=by
    apply Classical.byContradiction
    intro hge
    have hun:listed.getD i0 true=false:=(mem_ready.1 hi0.2).1
    exact tail_waits hs hc (by simpa using hn) inv (n-i0) i0 rfl hi0.1 hun i om hi
   have h2:=h.2 i ((zbO hin inv).2 hi)
   have e1:(l.take n).toArray[i]? =l.toArray[i]?:=by simp [hin]
   have h0:l.toArray[i]? =some l[i]:=by simp
   unfold qOp at h2
   rw [e1,h0]at h2
   simp only at h2
   have hA:=List.all_eq_true.1 hE i (by simpa using hin)
   rw [show l[i]? =some l[i]from List.getElem?_eq_getElem om]at hA
   simp only [Bool.and_eq_true]at hA
   have hwt:Region.wanted l[i] (yielded (l.take n).toArray a.tmps)=Region.wanted l[i] (yielded l.toArray a.tmps):=by
    unfold Region.wanted
    split
    ·rfl
    ·rename_i j want hg
     have hj:j<n:=by
      have:=hA.2
      rw [hg]at this
      simpa using this
     have:yielded (l.take n).toArray a.tmps j=yielded l.toArray a.tmps j:=by
      unfold yielded
      have e:(l.take n).toArray[j]? =l.toArray[j]?:=by simp [hj]
      rw [e]
     rw [this]
   have h3:qOp P l.toArray C i (wpAnyQ P .any (l.take n).toArray C (fun a'=>∀w',C w'→wpList P l.toArray Q (l.drop n) a' w') g ((listed.take n).setIfInBounds i true)) a:=by
    unfold qOp
    rw [h0]
    simp only
    rw [hwt]at h2
    exact h2
   refine wpOp_of_qOp hw (fun a' w' hw' h'=>ih (listed.setIfInBounds i true) a' w' (inv.set hi hin) hw' ?_) h3
   rw [take_set _ _ _ hin]
   exact h'
theorem zaN{n:Nat}{a:Act}{w:World}{l:List Oper}(hB:tailOk l n=true)
  (h:wpQuiet P l.toArray (fun w'=>∃p:Regrown,w'=grow (redrawn w p.d) p.os) (fun a'=>∀w',Below w.heap.size w w'→wpList P l.toArray Q (l.drop n) a' w') (l.take n) a):
  wpAny P .any l.toArray Q l.toArray.size (Array.replicate l.toArray.size false) a {w with drawn:=w.drawn+1}:=by
 unfold tailOk at hB
 simp only [Bool.and_eq_true,decide_eq_true_eq]at hB
 obtain⟨⟨⟨⟨⟨hB,hn⟩,hs⟩,hc⟩,hE⟩,hq⟩:=hB
 have e:(fun a'=>∀w',Below w.heap.size w w'→wpList P l.toArray Q (l.drop n) a' w')=(fun a'=>∀w',(∃p:Regrown,w'=grow (redrawn w p.d) p.os)→wpList P l.toArray Q (l.drop n) a' w'):=by
  funext a'
  exact propext ⟨fun h w' ⟨p,hp⟩=>h w' (by rw [hp];exact below_regrown _ _ _),fun h w' hb=>h w' (regrown_of_below hb)⟩
 rw [e]at h
 have h1:=zdA (k:=0) hn hE a (Nat.zero_le _) h
 rw [List.drop_zero]at h1
 simp only [Region.lexB,Bool.and_eq_true]at hB
 have hlen:(l.take n).length=n:=by simp;omega
 have h2:=wpAnyQ_lex (md:= .any) hB.1 (l.take n) 0 (Array.replicate (l.take n).toArray.size false) a sp (by simpa using hB.2) h1
 have inv0:HeadInv .any l.toArray n (Array.replicate l.toArray.size false):=
  ⟨by simp,fun j oj _ hl=>(by rw [getD_replicate_false]at hl;cases hl),fun t _ ht=>getD_in (by simpa using ht) (getD_replicate_false _ _)⟩
 have e3:(Array.replicate l.toArray.size false).take n=Array.replicate (l.take n).toArray.size false:=by
  apply Array.ext
  ·simp
  ·intro i h1 h2
   simp
 rw [←e3]at h2
 have h4:=zhz hn hs hc hE hq (l.take n).length (Array.replicate l.toArray.size false) a {w with drawn:=w.drawn+1} inv0 ⟨⟨w.drawn+1,#[]⟩,by rw [grow_empty];rfl⟩ h2
 rw [hlen,show n+(l.length-n)=l.toArray.size by simp;omega]at h4
 exact h4
theorem zl{id n:Nat}{a:Act}{w:World}{l:List Oper}(hm:P.follows .mixedOrders=true)(hB:tailOk l n=true)
  (h:wpQuiet P l.toArray (fun w'=>∃p:Regrown,w'=grow (redrawn w p.d) p.os) (fun a'=>∀w',Below w.heap.size w w'→wpList P l.toArray Q (l.drop n) a' w') (l.take n) a):(Code.region id l.toArray true).wp P Q a w:=
 wp_region_any hm (zaN hB h)
end
end
section
open Go.RowKit
def U(x:BitVec 64):Int:=(x.toNat:Int)
def bAnd(x y:BitVec 64):BitVec 64:=x&&&y
def bOr(x y:BitVec 64):BitVec 64:=x|||y
def bXor(x y:BitVec 64):BitVec 64:=x ^^^ y
def bAndn(x y:BitVec 64):BitVec 64:=x&&& ~~~y
def bShl(x:BitVec 64)(n:Nat):BitVec 64:=x<<<n
def bShr(x:BitVec 64)(n:Nat):BitVec 64:=x>>>n
theorem bv_lt(x:BitVec 64):x.toNat<18446744073709551616:=x.isLt
@[go_sem] theorem zeK (x y : BitVec 64) : bits .and .u64 (U x) (U y) = U (bAnd x y):=by
 unfold U bAnd;rw [u64_and_nat _ _ (bv_lt x) (bv_lt y),BitVec.toNat_and]
@[go_sem] theorem bv_or (x y : BitVec 64) : bits .or .u64 (U x) (U y) = U (bOr x y):=by
 unfold U bOr;rw [u64_or_nat _ _ (bv_lt x) (bv_lt y),BitVec.toNat_or]
@[go_sem] theorem zeI (x y : BitVec 64) : bits .xor .u64 (U x) (U y) = U (bXor x y):=by
 unfold U bXor;rw [u64_xor_nat _ _ (bv_lt x) (bv_lt y),BitVec.toNat_xor]
@[go_sem] theorem za1 (x y : BitVec 64) : bits .andNot .u64 (U x) (U y) = U (bAndn x y):=by
 unfold U bAndn;rw [u64_andNot_nat _ _ (bv_lt x) (bv_lt y),BitVec.toNat_and,BitVec.toNat_not]
theorem zcA(x:BitVec 64)(n:Nat):IntKind.u64.wrap (U x*2 ^ min n 64)=U (bShl x n):=by
 unfold U bShl
 rw [IntKind.wrap_u64,BitVec.toNat_shiftLeft,Nat.shiftLeft_eq]
 by_cases h:n≤64
 ·rw [Nat.min_eq_left h,show((2:Int) ^ n)=((2 ^ n:Nat):Int)from(Int.natCast_pow 2 n).symm▸rfl,←Int.natCast_mul]
  exact(Int.natCast_emod _ 18446744073709551616).symm
 ·rw [Nat.min_eq_right om]
  have e:x.toNat*2 ^ n=x.toNat*2 ^ (n-64)*2 ^ 64:=by
   rw [Nat.mul_assoc,←Nat.pow_add,Nat.sub_add_cancel om]
  rw [e,Nat.mul_mod_left]
  have e2:((x.toNat:Int)*2 ^ 64) % 18446744073709551616=0:=Int.mul_emod_left _ _
  exact e2
@[go_sem high] theorem bv_shl (yk : IntKind) (x : BitVec 64) (y : Int) (h : 0 ≤ y) : Op.shift .shl .u64 (U x) yk y = pure (.int .u64 (U (bShl x y.toNat))):=by
 rw [shift_shl_any _ _ _ _ h]
 congr 2
 exact zcA x y.toNat
theorem zaC(x:BitVec 64)(n:Nat):U x/2 ^ min n 64=U (bShr x n):=by
 unfold U bShr
 rw [BitVec.toNat_ushiftRight,Nat.shiftRight_eq_div_pow]
 by_cases h:n≤64
 ·rw [Nat.min_eq_left h,show((2:Int) ^ n)=((2 ^ n:Nat):Int)from(Int.natCast_pow 2 n).symm▸rfl]
  exact(Int.natCast_ediv _ _).symm
 ·rw [Nat.min_eq_right om]
  have e:x.toNat/2 ^ n=0:=Nat.div_eq_of_lt (Nat.lt_of_lt_of_le x.isLt (Nat.pow_le_pow_right dc om))
  rw [e]
  have e2:(x.toNat:Int)/2 ^ 64=0:=by
   have:=bv_lt x
   omega
  exact e2
@[go_sem high] theorem bv_shr (yk : IntKind) (x : BitVec 64) (y : Int) (h : 0 ≤ y) : Op.shift .shr .u64 (U x) yk y = pure (.int .u64 (U (bShr x y.toNat))):=by
 rw [shift_shr_any _ _ _ _ h]
 congr 2
 exact zaC x y.toNat
theorem U_zero(x:BitVec 64):(U x==0)=decide (x=0#64):=by
 unfold U
 by_cases h:x=0#64
 ·subst h;rfl
 ·have:x.toNat≠0:=fun e=>h (BitVec.eq_of_toNat_eq e)
  rw [decide_eq_false h]
  simp;omega
theorem U_bd(x:BitVec 64):0≤U x:=by unfold U;omega
end
section
open Go.RowKit Go.ChangeShapes Go.WideShapes
def CellIs(k:Option IntKind)(u:Value):Prop:=
 match k with
 |none=>∃b,u= .bool b
 |some k=>∃n,u= .int k n∧(Lit.int k n).wf=true
def flatF(g:TypeId→Option (List (Option IntKind))):List Field→Nat→Option (List (Option IntKind))
 |[],_=>some []
 |f::fs,off=>if f.offset=off then(g f.type).bind fun l=>(flatF g fs (off+l.length)).map (l++ ·)else none
def flat(P:Program):Nat→TypeId→Option (List (Option IntKind))
 |0,_=>none
 |n+1,t=>
  match P.underlying t with
  |some .bool=>some [none]
  |some (.int k)=>some [some k]
  |some (.struct fs)=>(flatF (flat P n) fs.toList 0).bind fun ks=>if P.cellsOf t=ks.length then some ks else none
  |some (.array m e)=>(flat P n e).bind fun l=>if P.cellsOf e=l.length∧P.cellsOf t=m*l.length then some (List.replicate m l).flatten else none
  |_=>none
section
variable {H:Type} {enc:TypeId×Value→H} {P:Program} {w:World} {base:Nat} {spare:Nat→Bool} {held:Bool}
def FlatIs(ks:List (Option IntKind))(cs:List Value):Prop:=cs.length=ks.length∧∀(i:Nat) (k:Option IntKind),ks[i]? =some k→∃u,cs[i]? =some u∧CellIs k u
theorem zbo{ks ls:List (Option IntKind)}{cs ds:List Value}(h:FlatIs ks cs)(k:FlatIs ls ds):FlatIs (ks++ls) (cs++ds):=by
 refine⟨by simp [h.1,k.1],fun i u hi=> ?_⟩
 by_cases hlt:i<ks.length
 ·rw [List.getElem?_append_left hlt]at hi
  obtain⟨v,hv,hc⟩:=h.2 i u hi
  exact⟨v,by rw [List.getElem?_append_left (by rw [h.1];exact hlt)];exact hv,hc⟩
 ·rw [List.getElem?_append_right om]at hi
  obtain⟨v,hv,hc⟩:=k.2 (i-ks.length) u hi
  exact⟨v,by rw [List.getElem?_append_right (by rw [h.1];omega),h.1];exact hv,hc⟩
theorem ze1(g:TypeId→Option (List (Option IntKind)))(cs:List Value)(tr:TypeId→List Value→Option (DataW H×List MemPlace))
  (hg:∀t ks ds x,g t=some ks→tr t ds=some x→FlatIs ks ds∧x.2=[]):
  ∀(fs:List Field) (off:Nat) (ks:List (Option IntKind)) (xs:List (DataW H×List MemPlace)),flatF g fs off=some ks→xs.length=fs.length→
   (∀(i:Nat) (f:Field),fs[i]? =some f→tr f.type ((cs.drop f.offset).take (P.cellsOf f.type))=xs[i]?)→
   FlatIs ks ((cs.drop off).take ks.length)∧xs.flatMap (·.2)=[]:=by
 intro fs
 induction fs with
 |nil=>
  intro off ks xs hf hl _
  simp only [flatF,Option.some.injEq]at hf
  subst hf
  have:xs=[]:=List.eq_nil_of_length_eq_zero (by simpa using hl)
  subst this
  exact⟨⟨by simp,fun i k hi=>by simp at hi⟩,rfl⟩
 |cons f fs ih=>
  intro off ks xs hf hl hx
  unfold flatF at hf
  split at hf
  ·rename_i ho
   rw [Option.bind_eq_some_iff]at hf
   obtain⟨l,hgl,hf⟩:=hf
   rw [Option.map_eq_some_iff]at hf
   obtain⟨ks',hf',rfl⟩:=hf
   match xs,hl with
   |x::xs,hl=>
    have h0:=hx 0 f rfl
    simp only [List.getElem?_cons_zero]at h0
    obtain⟨hA,hp⟩:=hg _ _ _ _ hgl h0
    obtain⟨hB,hq⟩:=ih (off+l.length) ks' xs hf' (by simpa using hl) (fun i f' hi=>by
     have:=hx (i+1) f' (by simpa using hi)
     simpa using this)
    refine⟨?_,by simp [hp,hq]⟩
    have hlen:((cs.drop f.offset).take (P.cellsOf f.type)).length=l.length:=hA.1
    have e1:(cs.drop f.offset).take (P.cellsOf f.type)=(cs.drop off).take l.length:=by
     rw [←ho]
     rw [List.length_take]at hlen
     by_cases hc:P.cellsOf f.type≤(cs.drop f.offset).length
     ·rw [←hlen,Nat.min_eq_left hc]
     ·rw [List.take_of_length_le om,←hlen,Nat.min_eq_right om,List.take_length]
    rw [e1]at hA
    have e2:(cs.drop off).take (l++ks').length=(cs.drop off).take l.length++(cs.drop (off+l.length)).take ks'.length:=by
     rw [List.length_append,List.take_add,List.drop_drop]
    rw [e2]
    exact zbo hA hB
  ·cases hf
theorem zfg(l:List (Option IntKind))(c:Nat)(hc:c=l.length)(cs:List Value)(tr:List Value→Option (DataW H×List MemPlace))
  (hg:∀ds x,tr ds=some x→FlatIs l ds∧x.2=[]):
  ∀(m off:Nat) (xs:List (DataW H×List MemPlace)),xs.length=m→
   (∀i,i<m→tr ((cs.drop ((off+i)*c)).take c)=xs[i]?)→
   FlatIs (List.replicate m l).flatten ((cs.drop (off*c)).take (m*l.length))∧xs.flatMap (·.2)=[]:=by
 intro m
 induction m with
 |zero=>
  intro off xs hl _
  have:xs=[]:=List.eq_nil_of_length_eq_zero (by simpa using hl)
  subst this
  exact⟨⟨by simp,fun i k hi=>by simp at hi⟩,rfl⟩
 |succ m ih=>
  intro off xs hl hx
  match xs,hl with
  |x::xs,hl=>
   have h0:=hx 0 om
   simp only [List.getElem?_cons_zero,Nat.add_zero]at h0
   obtain⟨hA,hp⟩:=hg _ _ h0
   obtain⟨hB,hq⟩:=ih (off+1) xs (by simpa using hl) (fun i hi=>by
    have:=hx (i+1) om
    simp only [List.getElem?_cons_succ]at this
    rw [←this,show off+1+i=off+(i+1) by omega])
   refine⟨?_,by simp [hp,hq]⟩
   have e2:(cs.drop (off*c)).take ((m+1)*l.length)=(cs.drop (off*c)).take c++(cs.drop ((off+1)*c)).take (m*l.length):=by
    rw [Nat.add_mul,Nat.one_mul,Nat.add_comm (m*l.length),List.take_add,List.drop_drop,←hc,Nat.add_mul,Nat.one_mul]
   rw [e2,List.replicate_succ,List.flatten_cons]
   exact zbo hA hB
theorem zfr:∀(n:Nat) (t:TypeId) (ks:List (Option IntKind)) (fuel:Nat) (cs:List Value) (x:DataW H×List MemPlace),
  flat P n t=some ks→DataW.trod enc P w base spare held fuel t cs=some x→FlatIs ks cs∧x.2=[]:=by
 intro n
 induction n with
 |zero=>intro t ks fuel cs x hf _;cases hf
 |succ n ih=>
  intro t ks fuel cs x hf hx
  unfold flat at hf
  split at hf
  ·rename_i ht
   cases hf
   cases fuel with
   |zero=>simp [DataW.trod]at hx
   |succ m=>
    unfold DataW.trod at hx
    rw [ht]at hx
    split at hx<;>simp_all
    subst hx
    exact⟨⟨rfl,fun i k hi=>by
     match i,hi with
     |0,hi=>simp at hi;subst hi;exact⟨_,rfl,_,rfl⟩⟩,rfl⟩
  ·rename_i k ht
   cases hf
   obtain⟨a,h1,h2,h3⟩:∃a,cs=[.int k a]∧x.2=[]∧(Lit.int k a).wf=true:=by
    cases fuel with
    |zero=>simp [DataW.trod]at hx
    |succ m=>
     unfold DataW.trod at hx
     rw [ht]at hx
     split at hx<;>simp_all
     obtain⟨⟨rfl,h⟩,rfl⟩:=hx
     simp_all
   subst h1
   exact⟨⟨rfl,fun i k' hi=>by
    match i,hi with
    |0,hi=>simp at hi;subst hi;exact⟨_,rfl,_,rfl,h3⟩⟩,h2⟩
  ·rename_i fs ht
   obtain⟨xs,m,rfl,rfl,hl,hxl,hF⟩:=DataW.trod_struct ht hx
   rw [Option.bind_eq_some_iff]at hf
   obtain⟨ks',hf,hk⟩:=hf
   split at hk
   ·rename_i hc
    cases hk
    obtain⟨hA,hp⟩:=ze1 (P:=P) (flat P n) cs (DataW.trod enc P w base spare held m) (fun t ks ds x h1 h2=>ih t ks m ds x h1 h2) fs.toList 0 ks xs hf (by simpa using hxl) (fun i f hi=>hF i f (by simpa using hi))
    rw [List.drop_zero,List.take_of_length_le om]at hA
    exact⟨hA,hp⟩
   ·cases hk
  ·rename_i m e ht
   obtain⟨xs,q,rfl,rfl,hl,hxl,hF⟩:=DataW.trod_array ht hx
   rw [Option.bind_eq_some_iff]at hf
   obtain⟨l,hf,hk⟩:=hf
   split at hk
   ·rename_i hc
    cases hk
    obtain⟨hA,hp⟩:=zfg l (P.cellsOf e) hc.1 cs (DataW.trod enc P w base spare held q e) (fun ds x h=>ih e l q ds x hf h) m 0 xs hxl (fun i hi=>by rw [Nat.zero_add];exact hF i hi)
    rw [Nat.zero_mul,List.drop_zero,List.take_of_length_le om]at hA
    exact⟨hA,hp⟩
   ·cases hk
  ·cases hf
theorem zeC{t:TypeId}{v:Value}{d:DataW H}{p:List MemPlace}{n:Nat}{ks:List (Option IntKind)}(hf:flat P n t=some ks)(hs:∃cs,v= .agg cs)(h:DataW.Trod enc P w base spare held t v d p):
  ∃cs:Array Value,v= .agg cs∧p=[]∧FlatIs ks cs.toList:=by
 obtain⟨cs,rfl⟩:=hs
 obtain⟨fuel,hf'⟩:=h
 obtain⟨h1,h2⟩:=zfr n t ks fuel _ _ hf hf'
 exact⟨cs,rfl,h2,h1⟩
end
end
section
open Go.RowKit
namespace P
def make(c k:Int):Int:=if(c≤1∧1≤k)∧k≤6 then 8*c+k else 0
def isB(p:Int):Bool:=decide ((1≤p∧p≤6)∨(9≤p∧p≤14))
def color(p:Int):Int:=if isB p then p/8 else 2
def kind(p:Int):Int:=if isB p then p % 8 else 0
def other(p:Int):Int:=if isB p then(if p≤6 then p+8 else p-8)else 0
theorem is_make(p:Int)(h0:0≤p)(h1:p≤255):(decide (p≠0)&&(make (p/8) (p % 8)==p))=isB p:=
 all8 (fun p=>(decide (p≠0)&&(make (p/8) (p % 8)==p))=isB p) (by decide+kernel) p h0 h1
theorem make_bd(c k:Int)(h0:0≤c):0≤make c k∧make c k≤14:=by
 unfold make;split<;>omega
theorem color_is(p:Int)(h0:0≤p)(h1:p≤255):isB p=true→0≤color p∧color p≤1:=
 all8 (fun p=>isB p=true→0≤color p∧color p≤1) (by decide+kernel) p h0 h1
theorem kind_is(p:Int)(h0:0≤p)(h1:p≤255):isB p=true→1≤kind p∧kind p≤6:=
 all8 (fun p=>isB p=true→1≤kind p∧kind p≤6) (by decide+kernel) p h0 h1
def letters(c:Int):ByteArray:=if c=0 then⟨#[46,80,78,66,82,81,75]⟩else⟨#[46,112,110,98,114,113,107]⟩
def letter(p:Int):ByteArray:=if isB p then(letters (color p)).extract (kind p).toNat ((kind p).toNat+1)else⟨#[]⟩
end P
theorem zc5(c k:Int)(w:World)(h0:0≤c)(h1:c≤255)(h2:0≤k)(h3:k≤255):
  cR 126 #[.int .u8 c,.int .u8 k] w (.int .u8 (P.make c k)) fun w'=>w=w':=by
 go_enter func126,ntmps126
 go_wp2
 all_goals
  go_ret
  refine⟨ret_int ?_,rfl⟩
  unfold P.make
  first|rw [if_pos om]|rw [if_neg om]
theorem is_any(p:Int)(w:World)(h0:0≤p)(h1:p≤255):
  cR 188 #[.int .u8 p] w (.bool (P.isB p)) fun w'=>w=w':=by
 have H:=hid (P.is_make p h0 h1)
 by_cases hp:p=0
 ·subst hp
  go_enter func188,ntmps188
  go_wp2
  go_ret
  exact⟨rfl,rfl⟩
 ·have hb:(p==0)=false:=by simpa using hp
  go_enter func188,ntmps188
  go_wp2_with (go_at_call 126;refine(zc5 _ _ _ om om om om).mono ?_;rintro e w' ⟨rfl,rfl⟩)
  go_ret
  exact⟨zy (by rw [←H.out];simp [bne,hb,hp]),rfl⟩
theorem is_eq(p:Int)(b:Bool)(w:World)(h0:0≤p)(h1:p≤255)(h:P.isB p=b):
  cR 188 #[.int .u8 p] w (.bool b) fun w'=>w=w':=by
 rw [←h];exact is_any p w h0 h1
theorem zgF(p:Int)(w:World)(h0:0≤p)(h1:p≤255):
  cR 207 #[.int .u8 p] w (.int .u8 (P.color p)) fun w'=>w=w':=by
 by_cases h:P.isB p=true
 ·have H:=hid h
  clear h
  go_enter func207,ntmps207
  go_wp2_with (go_at_call 188;refine(is_eq _ true _ h0 h1 H).mono ?_;rintro e w' ⟨rfl,rfl⟩)
  go_ret
  exact⟨ret_int (by unfold P.color;rw [if_pos H.out]),rfl⟩
 ·have H:=hid h
  clear h
  go_enter func207,ntmps207
  go_wp2_with (go_at_call 188;refine(is_eq _ false _ h0 h1 (by simpa using H.out)).mono ?_;rintro e w' ⟨rfl,rfl⟩)
  go_ret
  exact⟨ret_int (by unfold P.color;rw [if_neg H.out]),rfl⟩
theorem zaF(p:Int)(w:World)(h0:0≤p)(h1:p≤255):
  cR 122 #[.int .u8 p] w (.int .u8 (P.kind p)) fun w'=>w=w':=by
 by_cases h:P.isB p=true
 ·have H:=hid h
  clear h
  go_enter func122,ntmps122
  go_wp2_with (go_at_call 188;refine(is_eq _ true _ h0 h1 H).mono ?_;rintro e w' ⟨rfl,rfl⟩)
  go_ret
  exact⟨ret_int (by unfold P.kind;rw [if_pos H.out]),rfl⟩
 ·have H:=hid h
  clear h
  go_enter func122,ntmps122
  go_wp2_with (go_at_call 188;refine(is_eq _ false _ h0 h1 (by simpa using H.out)).mono ?_;rintro e w' ⟨rfl,rfl⟩)
  go_ret
  exact⟨ret_int (by unfold P.kind;rw [if_neg H.out]),rfl⟩
def P.at(n:Nat):Int:=if n<6 then(n:Int)+1 else(n:Int)+3
def P.noneTo(s:ByteArray)(n:Nat):Prop:=∀j,j<n→((P.letter (P.at j)).toList==s.toList)=false
theorem P.noneTo_succ{s:ByteArray}{n:Nat}(h:P.noneTo s n)(h1:((P.letter (P.at n)).toList==s.toList)=false):P.noneTo s (n+1):=fun j hj=>by
 by_cases e:j=n
 ·rw [e];exact h1
 ·exact h j om
def P.Parsed(s:ByteArray)(p:Int)(ok:Bool):Prop:=(ok=true∧∃n,n<12∧p=P.at n∧((P.letter (P.at n)).toList==s.toList)=true∧P.noneTo s n)∨(ok=false∧p=0∧P.noneTo s 12)
def pk(i:Nat):IntKind:=if i<65 then .u8 else if i<66 then .u64 else if i<79 then .u8 else if i<84 then .i8 else if i<86 then .u8 else .i64
def posL(c:Nat→Int):List Value:=(List.range 88).map fun i=>Value.int (pk i) (c i)
def posC(c:Nat→Int):Array Value:=(posL c).toArray
theorem zE(c:Nat→Int)(i:Nat)(h:i<88):(posC c)[i]? =some (.int (pk i) (c i)):=by
 simp [posC,posL,h]
def posK:List (Option IntKind):=(List.range 88).map fun i=>some (pk i)
theorem zcI:posK.length=88:=by decide+kernel
theorem posFlat:flat prog 5 31=some posK:=of_decide_eq_true kr
def PosOk(c:Nat→Int):Prop:=∀i,i<88→(Lit.int (pk i) (c i)).wf=true
section
variable {H:Type} {enc:TypeId×Value→H} {w:World} {base:Nat} {spare:Nat→Bool} {held:Bool}
theorem open_pos{r:Reach}{b0:Nat}{v:Value}{d:DataW H}{p:List MemPlace}(hv:Value.okWide prog w r b0 31 v)(h:DataW.Trod enc prog w base spare held 31 v d p):
  ∃c,v= .agg (posC c)∧p=[]∧PosOk c:=by
 have hs:∃cs,v= .agg cs:=(Go.WideShapes.okWide_struct (t:=31) (P:=prog) underlying31 hv).imp fun cs h=>h.1
 obtain⟨cs,rfl,rfl,hl,hc⟩:=zeC posFlat hs h
 have hl:cs.size=88:=by rw [zcI]at hl;exact hl
 have key:∀i,i<88→∃n,cs[i]? =some (.int (pk i) n)∧(Lit.int (pk i) n).wf=true:=by
  intro i hi
  obtain⟨u,hu,n,rfl,hw⟩:=hc i (some (pk i)) (by simp [posK,hi])
  exact⟨n,by simpa using hu,hw⟩
 refine⟨fun i=>match cs[i]? with|some (.int _ n)=>n|_=>0,?_,rfl,fun i hi=> ?_⟩
 ·refine congrArg Value.agg ?_
  apply Array.ext_getElem?
  intro i
  by_cases hi:i<88
  ·rw [zE _ i hi]
   obtain⟨n,hn,_⟩:=key i hi
   simp only [hn]
  ·rw [Array.getElem?_eq_none om,Array.getElem?_eq_none (by simp [posC,posL];omega)]
 ·obtain⟨n,hn,hw⟩:=key i hi
  simp only [hn]
  exact hw
end
@[go_sem] theorem zew (c : Nat → Int) : (posC c)[0]? = some (.int .u8 (c 0)):=zE c 0 dc
@[go_sem] theorem posC_65 (c : Nat → Int) : (posC c)[65]? = some (.int .u64 (c 65)):=zE c 65 dc
@[go_sem] theorem posC_78 (c : Nat → Int) : (posC c)[78]? = some (.int .u8 (c 78)):=zE c 78 dc
@[go_sem] theorem posC_83 (c : Nat → Int) : (posC c)[83]? = some (.int .i8 (c 83)):=zE c 83 dc
theorem zbM(c:Nat→Int)(s:Nat)(h:s<64):(posC c)[1+s]? =some (.int .u8 (c (1+s))):=by
 rw [zE c (1+s) om];unfold pk;rw [if_pos om]
theorem zC(c:Nat→Int):(posC c).size=88:=by simp [posC,posL]
theorem infoPos:(prog.info? 31).map (·.size)=some 88:=by kernel_rfl
theorem zr(c:Nat→Int):(prog.info? 31).map (·.size)=some (posC c).size:=by rw [infoPos,zC]
theorem zH{ops:Array Oper}{rest:List Oper}{o:Oper}{a:Act}{w:World}{Q:Exit→Act→World→Prop}(hgd:o.guard=none)(x:Operand)(ho:o.op= .load 31 x)
  (c:Nat→Int) (hx:∃g t fr,a.eval x= .pointer (some ⟨g,0,none⟩)∧w.heap[g]? =some (.cells (posC c) t fr))
  (h:wpList prog ops Q rest (a.put o.dst (.agg (posC c))) w):wpList prog ops Q (o::rest) a w:=
 let⟨g,t,fr,h1,hg⟩:=hx
 wpList_load_row hgd 31 x ho g h1 t (posC c) fr _ hg underlying31 rfl (zr c) h
theorem zu{C:World→Prop}{K:Act→Prop}{a:Act}{o:Oper}(x:Operand)(ho:o.op= .load 31 x)(c:Nat→Int)
  (hx:∃g t fr,a.eval x= .pointer (some ⟨g,0,none⟩)∧∀w,C w→w.heap[g]? =some (.cells (posC c) t fr)) (hk:K (a.put o.dst (.agg (posC c)))):o.quiet prog a C K:=by
 obtain⟨g,t,fr,h1,hg⟩:=hx
 refine⟨.agg (posC c),fun w hw=> ?_,hk⟩
 unfold Oper.quietAt execOp
 simp only [ho,h1,Instr.loadAt,Instr.sureAddr,Sem.run_bind,Sem.run_pure,Result.andThen_ok,run_loadVar_row w g t 31 (posC c) fr _ (hg w hw) underlying31 rfl (zr c)]
 exact⟨rfl,rfl⟩
end
section
open Go.RowKit
def B.stepsA:Array Value:= #[.int .i64 8,.int .u64 0,.int .i64 9,.int .u64 72340172838076673,.int .i64 1,.int .u64 72340172838076673,.int .i64 (-7),.int .u64 72340172838076673,.int .i64 (-8),.int .u64 0,.int .i64 (-9),.int .u64 9259542123273814144,.int .i64 (-1),.int .u64 9259542123273814144,.int .i64 7,.int .u64 9259542123273814144]
theorem z7(w:World):
  cB 342 #[] w (.agg B.stepsA):=by
 go_enter func342,ntmps342
 go_wp2
 refine bodyPost_ret (v:= .agg B.stepsA) ?_ rfl ⟨rfl,?_⟩
 ·simp [results,results342,go_sem,B.stepsA]
 ·exact bA
end
section
open Go.RowKit Go.Sort
namespace B
def one(s:Int):BitVec 64:=if 0≤s∧s<64 then 1#64<<<s.toNat else 0#64
def fA:BitVec 64:=0x0101010101010101#64
def fH:BitVec 64:=0x8080808080808080#64
def put(b:BitVec 64)(s:Int):BitVec 64:=bOr b (one s)
def shift(b:BitVec 64)(d:Nat):BitVec 64:=
 match d with
 |0=>bAndn (bShl b 8) 0#64
 |1=>bAndn (bShl b 9) fA
 |2=>bAndn (bShl b 1) fA
 |3=>bAndn (bShr b 7) fA
 |4=>bAndn (bShr b 8) 0#64
 |5=>bAndn (bShr b 9) fH
 |6=>bAndn (bShr b 1) fH
 |7=>bAndn (bShl b 7) fH
 |_=>0#64
end B
theorem B.one_out(s:Int)(h:s<0∨64≤s):B.one s=0#64:=by unfold B.one;rw [if_neg om]
theorem B.one_val(s:Int)(h0:0≤s)(h1:s<64):IntKind.u64.wrap (2 ^ s.toNat)=U (B.one s):=by
 unfold B.one
 rw [if_pos ⟨h0,h1⟩]
 have:=zcA 1#64 s.toNat
 rw [Nat.min_eq_left om,show U 1#64=1 from rfl,Int.one_mul]at this
 exact this
theorem ziY(s:Int)(w:World):
  cR 341 #[.int .i64 s] w (.int .u64 (U (B.one s))) fun w'=>w=w':=by
 by_cases h:s<0
 ·have e:=hid (B.one_out s (.inl h))
  go_enter func341,ntmps341
  go_wp2
  go_ret
  exact⟨ret_int (by rw [e.out];rfl),rfl⟩
 ·by_cases h2:64≤s
  ·have e:=hid (B.one_out s (.inr h2))
   go_enter func341,ntmps341
   go_wp2
   go_ret
   exact⟨ret_int (by rw [e.out];rfl),rfl⟩
  ·have e:=hid (B.one_val s om om)
   go_enter func341,ntmps341
   go_wp2
   go_ret
   exact⟨ret_int (by rw [e.out]),rfl⟩
theorem zeq(b:BitVec 64)(s:Int)(w:World):
  cR 285 #[.int .u64 (U b),.int .i64 s] w (.int .u64 (U (B.put b s))) fun w'=>w=w':=by
 go_enter func285,ntmps285
 go_wp2_with (go_at_call 341;refine(ziY _ _).mono ?_;rintro e w' ⟨rfl,rfl⟩)
 go_ret
 exact⟨rfl,rfl⟩
theorem zcu(b:BitVec 64)(d:Nat)(hd:d<8)(w:World):
  cB 286 #[.int .u64 (U b),.int .i64 (d:Int)] w (.int .u64 (U (B.shift b d))):=by
 have cA:∀x:BitVec 64,bits .andNot .u64 (U x) 72340172838076673=U (bAndn x B.fA):=fun x=>za1 x B.fA
 have cH:∀x:BitVec 64,bits .andNot .u64 (U x) 9259542123273814144=U (bAndn x B.fH):=fun x=>za1 x B.fH
 have c0:∀x:BitVec 64,bits .andNot .u64 (U x) 0=U (bAndn x 0#64):=fun x=>za1 x 0#64
 match d,hd with
 |0,_=>
  have hi:∀w,(Instr.index 330 (.agg B.stepsA) (.int .i64 0)).run prog w= .ok (.agg #[.int .i64 8,.int .u64 0]) w:=fun _=>by kernel_rfl
  go_enter func286,ntmps286
  go_wp2_with (go_at_call 342;refine(z7 _).mono ?_;rintro e w' ⟨rfl,hb⟩)
  go_quiet (fail)
  go_wp2
  go_ret
  exact⟨ret_int (by unfold B.shift;rfl),below_drewN (hb.alloc hb.size _) _⟩
 |1,_=>
  have hi:∀w,(Instr.index 330 (.agg B.stepsA) (.int .i64 1)).run prog w= .ok (.agg #[.int .i64 9,.int .u64 72340172838076673]) w:=fun _=>by kernel_rfl
  go_enter func286,ntmps286
  go_wp2_with (go_at_call 342;refine(z7 _).mono ?_;rintro e w' ⟨rfl,hb⟩)
  go_quiet (fail)
  go_wp2
  go_ret
  exact⟨ret_int (by unfold B.shift;rfl),below_drewN (hb.alloc hb.size _) _⟩
 |2,_=>
  have hi:∀w,(Instr.index 330 (.agg B.stepsA) (.int .i64 2)).run prog w= .ok (.agg #[.int .i64 1,.int .u64 72340172838076673]) w:=fun _=>by kernel_rfl
  go_enter func286,ntmps286
  go_wp2_with (go_at_call 342;refine(z7 _).mono ?_;rintro e w' ⟨rfl,hb⟩)
  go_quiet (fail)
  go_wp2
  go_ret
  exact⟨ret_int (by unfold B.shift;rfl),below_drewN (hb.alloc hb.size _) _⟩
 |3,_=>
  have hi:∀w,(Instr.index 330 (.agg B.stepsA) (.int .i64 3)).run prog w= .ok (.agg #[.int .i64 (-7),.int .u64 72340172838076673]) w:=fun _=>by kernel_rfl
  go_enter func286,ntmps286
  go_wp2_with (go_at_call 342;refine(z7 _).mono ?_;rintro e w' ⟨rfl,hb⟩)
  go_quiet (fail)
  go_wp2
  go_ret
  exact⟨ret_int (by unfold B.shift;rfl),below_drewN (hb.alloc hb.size _) _⟩
 |4,_=>
  have hi:∀w,(Instr.index 330 (.agg B.stepsA) (.int .i64 4)).run prog w= .ok (.agg #[.int .i64 (-8),.int .u64 0]) w:=fun _=>by kernel_rfl
  go_enter func286,ntmps286
  go_wp2_with (go_at_call 342;refine(z7 _).mono ?_;rintro e w' ⟨rfl,hb⟩)
  go_quiet (fail)
  go_wp2
  go_ret
  exact⟨ret_int (by unfold B.shift;rfl),below_drewN (hb.alloc hb.size _) _⟩
 |5,_=>
  have hi:∀w,(Instr.index 330 (.agg B.stepsA) (.int .i64 5)).run prog w= .ok (.agg #[.int .i64 (-9),.int .u64 9259542123273814144]) w:=fun _=>by kernel_rfl
  go_enter func286,ntmps286
  go_wp2_with (go_at_call 342;refine(z7 _).mono ?_;rintro e w' ⟨rfl,hb⟩)
  go_quiet (fail)
  go_wp2
  go_ret
  exact⟨ret_int (by unfold B.shift;rfl),below_drewN (hb.alloc hb.size _) _⟩
 |6,_=>
  have hi:∀w,(Instr.index 330 (.agg B.stepsA) (.int .i64 6)).run prog w= .ok (.agg #[.int .i64 (-1),.int .u64 9259542123273814144]) w:=fun _=>by kernel_rfl
  go_enter func286,ntmps286
  go_wp2_with (go_at_call 342;refine(z7 _).mono ?_;rintro e w' ⟨rfl,hb⟩)
  go_quiet (fail)
  go_wp2
  go_ret
  exact⟨ret_int (by unfold B.shift;rfl),below_drewN (hb.alloc hb.size _) _⟩
 |7,_=>
  have hi:∀w,(Instr.index 330 (.agg B.stepsA) (.int .i64 7)).run prog w= .ok (.agg #[.int .i64 7,.int .u64 9259542123273814144]) w:=fun _=>by kernel_rfl
  go_enter func286,ntmps286
  go_wp2_with (go_at_call 342;refine(z7 _).mono ?_;rintro e w' ⟨rfl,hb⟩)
  go_quiet (fail)
  go_wp2
  go_ret
  exact⟨ret_int (by unfold B.shift;rfl),below_drewN (hb.alloc hb.size _) _⟩
namespace R
def steps(s:Int)(ds:List Nat):BitVec 64:=ds.foldl B.shift (B.put 0#64 s)
def orTo(g:Nat→BitVec 64):Nat→BitVec 64
 |0=>0#64
 |n+1=>bOr (orTo g n) (g n)
def king(s:Int):BitVec 64:=orTo (fun d=>steps s [d]) 8
def knight1(s:Int)(d:Nat):BitVec 64:=if d % 2=1 then 0#64 else bOr (steps s [d,(d+1) % 8]) (steps s [d,(d+7) % 8])
def knight(s:Int):BitVec 64:=orTo (knight1 s) 8
def pawn(c:Int)(s:Int):BitVec 64:=if c=0 then bOr (steps s [1]) (steps s [7])else if c=1 then bOr (steps s [3]) (steps s [5])else 0#64
def rayAt(s:Int)(d:Nat):Nat→BitVec 64
 |0=>steps s [d]
 |n+1=>B.shift (rayAt s d n) d
def ray(s:Int)(d:Nat):BitVec 64:=orTo (rayAt s d) 8
theorem steps_snoc(s:Int)(ds:List Nat)(d:Nat):steps s (ds++[d])=B.shift (steps s ds) d:=by simp [steps]
end R
theorem zad(s:Int)(b n:Nat)(ds:List Nat)(w:World)(hn:ds.length=n)(hn2:n≤8)(hds:∀d∈ds,d<8)(hb:b<w.heap.size)(hc:∀(j:Nat) d,ds[j]? =some d→w.cell? ⟨b,j,none⟩=some (.int .i64 (d:Int))):
  cB 204 #[.int .i64 s,.slice (some ⟨b,0,none⟩) n n] w (.int .u64 (U (R.steps s ds))):=by
 have Hc:=hid hc
 have Hn:=hid hn
 have Hd:=hid hds
 clear hc hn hds
 have p0:∀w':World,cR 285 #[.int .u64 0,.int .i64 s] w' (.int .u64 (U (B.put 0#64 s))) fun w''=>w'=w'':=fun w'=>zeq 0#64 s w'
 have P0:=hid p0
 clear p0
 go_enter func204,ntmps204
 go_wp2_with (go_at_call 285;refine(P0 _).mono ?_;rintro e w' ⟨rfl,rfl⟩)
 go_loopw [5,12] (fun v i wr=>∃k:Nat,k≤n∧i= .int .i64 (k:Int)∧v= .int .u64 (U (R.steps s (ds.take k)))∧Below w.heap.size w wr) (fun _ i _=>n-(intOf i).toNat)
 case atStart=>exact⟨0,Nat.zero_le _,rfl,by simp [R.steps],Below.refl _ _⟩
 case round=>
  obtain⟨k,hk,rfl,rfl,hbr⟩:=hrel
  by_cases hlt:k<n
  ·obtain⟨d,hd⟩:∃d,ds[k]? =some d:=⟨_,List.getElem?_eq_getElem (by have:=Hn.out;omega)⟩
   have hcell:wr.cell? ⟨b,k,none⟩=some (.int .i64 (d:Int)):=(hbr.cell (p:=⟨b,k,none⟩) hb).trans (Hc k d hd)
   have hd8:d<8:=Hd d (List.mem_of_getElem? hd)
   have Hs:Hid (R.steps s (ds.take (k+1))=B.shift (R.steps s (ds.take k)) d):=by
    rw [List.take_add_one,hd]
    exact R.steps_snoc _ _ _
   have Hd2:=hid hd
   clear hd
   go_wp2_with (go_at_call 286;refine(zcu _ _ hd8 _).mono ?_;rintro e w1 ⟨rfl,hb1⟩)
   exact⟨⟨k+1,by omega,by go_num,by rw [Hs.out],za hbr hb1⟩,by simp [intOf];omega⟩
  ·obtain rfl:k=n:=by omega
   go_wp2
   go_ret
   exact⟨by rw [List.take_of_length_le (by have:=Hn.out;omega)];rfl,hbr⟩
theorem zai(w:World)(l:List Nat)(T:TypeId):∀(j d:Nat),l[j]? =some d→(w.alloc (.cells (l.map fun(d:Nat)=>Value.int .i64 (d:Int)).toArray T)).cell? ⟨w.heap.size,j,none⟩=some (.int .i64 (d:Int)):=by
 intro j d h
 rw [World.cell?_alloc_at _ _ _ _ rfl]
 simp [h]
def EachOk(fid:Nat)(B:Nat)(g:Nat→BitVec 64)(w:World):Prop:=∀(d:Nat) (w':World),d<8→Below w.heap.size w w'→Calls prog fid #[.int .i64 (d:Int),.pointer (some ⟨B,0,none⟩)] w' fun e w''=>e= .returned (.int .u64 (U (g d)))∧Below w'.heap.size w' w''
theorem zfw(s:Int)(B d:Nat)(w:World)(hd:d<8)(hB:w.cell? ⟨B,0,none⟩=some (.int .i64 s)):
  cB 283 #[.int .i64 (d:Int),.pointer (some ⟨B,0,none⟩)] w (.int .u64 (U (R.steps s [d]))):=by
 go_enter func283,ntmps283
 go_wp2_with (go_at_call 204;refine(zad s _ 1 [d] _ rfl om (by simpa using hd) sp (zai _ [d] _)).mono ?_;rintro e w1 ⟨rfl,hb1⟩)
 go_ret
 exact⟨rfl,bA.trans (hb1.mono sp)⟩
theorem zg6(B:Nat)(g:Nat→BitVec 64)(w:World)(h:EachOk 283 B g w):
  cB 282 #[.func (.func 283) #[] #[.pointer (some ⟨B,0,none⟩)]] w (.int .u64 (U (R.orTo g 8))):=by
 have H:=hid h
 clear h
 go_enter func282,ntmps282
 go_wp2
 go_loopw [3,5] (fun v i wr=>∃k:Nat,k≤8∧i= .int .i64 (k:Int)∧v= .int .u64 (U (R.orTo g k))∧Below w.heap.size w wr) (fun _ i _=>8-(intOf i).toNat)
 case atStart=>exact⟨0,Nat.zero_le _,rfl,rfl,Below.refl _ _⟩
 case round=>
  obtain⟨k,hk,rfl,rfl,hbr⟩:=hrel
  by_cases hlt:k<8
  ·go_wp2_with (go_at_call 283;refine(H k _ hlt hbr).mono ?_;rintro e w1 ⟨rfl,hb1⟩)
   exact⟨⟨k+1,by omega,by go_num,rfl,za hbr hb1⟩,by simp [intOf];omega⟩
  ·obtain rfl:k=8:=by omega
   go_wp2
   go_ret
   exact⟨rfl,hbr⟩
theorem zao(s:Int)(w:World):
  cB 202 #[.int .i64 s] w (.int .u64 (U (R.king s))):=by
 have hE:EachOk 283 w.heap.size (fun d=>R.steps s [d]) (w.alloc (.cells #[.int .i64 s] 3)):=fun d w' hd hb=>zfw s _ d w' hd ((hb.cell (p:=⟨w.heap.size,0,none⟩) sp).trans (by rw [World.cell?_alloc_at _ _ _ _ rfl];rfl))
 have HE:=hid hE
 clear hE
 have hmf:∀(fn:Fn) (first cap:Array Value) (w:World),(Instr.makeFunc fn first cap).run prog w= .ok (.func fn first cap) w:=fun _ _ _ _=>rfl
 go_enter func202,ntmps202
 go_wp2_with (go_at_call 282;refine(zg6 _ _ _ HE).mono ?_;rintro e w1 ⟨rfl,hb1⟩)
 go_ret
 exact⟨rfl,bA.trans (hb1.mono sp)⟩
theorem za9(c:Int)(s:Int)(w:World):
  cB 133 #[.int .u8 c,.int .i64 s] w (.int .u64 (U (R.pawn c s))):=by
 by_cases h:c=0
 ·subst h
  go_enter func133,ntmps133
  go_wp2_with fail
  go_outline
  refine(zad s _ 1 [1] _ rfl om sp sp (zai _ [1] _)).mono ?_
  rintro e w1 ⟨rfl,hb1⟩
  go_wp2_with fail
  refine(zad s _ 1 [7] _ rfl om sp sp (zai _ [7] _)).mono ?_
  rintro e w7 ⟨rfl,hb7⟩
  go_wp2
  go_ret
  have k1:Below w.heap.size w w1:=bA.trans (hb1.mono sp)
  exact⟨rfl,za (k1.alloc k1.size _) hb7⟩
 ·by_cases h1:c=1
  ·subst h1
   go_enter func133,ntmps133
   go_wp2_with fail
   refine(zad s _ 1 [3] _ rfl om sp sp (zai _ [3] _)).mono ?_
   rintro e w1 ⟨rfl,hb1⟩
   go_wp2_with fail
   refine(zad s _ 1 [5] _ rfl om sp sp (zai _ [5] _)).mono ?_
   rintro e w7 ⟨rfl,hb7⟩
   go_wp2
   go_ret
   have k1:Below w.heap.size w w1:=bA.trans (hb1.mono sp)
   exact⟨rfl,za (k1.alloc k1.size _) hb7⟩
  ·have e0:(c==0)=false:=by simpa using h
   have e1:(c==1)=false:=by simpa using h1
   go_enter func133,ntmps133
   go_wp2
   go_ret
   exact⟨ret_int (by unfold R.pawn;rw [if_neg h,if_neg h1];rfl),Below.refl _ _⟩
theorem R.orTo_zero(g:Nat→BitVec 64)(k:Nat)(h:∀j,k≤j→g j=0#64):∀n,k≤n→R.orTo g n=R.orTo g k:=by
 intro n
 induction n with
 |zero=>intro hk;rw [show k=0 by omega]
 |succ n ih=>
  intro hk
  by_cases e:k=n+1
  ·rw [e]
  ·rw [R.orTo,ih om,h n om];unfold bOr;simp
theorem B.shift_zero(d:Nat):B.shift 0#64 d=0#64:=by
 unfold B.shift
 split<;>rfl
theorem R.rayAt_zero(s:Int)(d k:Nat)(h:R.rayAt s d k=0#64):∀j,k≤j→R.rayAt s d j=0#64:=by
 intro j
 induction j with
 |zero=>intro hk;rw [←h,show k=0 by omega]
 |succ j ih=>
  intro hk
  by_cases e:k=j+1
  ·rw [←e];exact h
  ·rw [R.rayAt,ih om,B.shift_zero]
theorem R.ray_ends:∀(s:Fin 64) (d:Fin 8),R.rayAt ((s.val:Nat):Int) d.val 8=0#64:=by decide+kernel
theorem R.ray_out(s:Int)(d:Nat)(h:s<0∨64≤s):R.rayAt s d 8=0#64:=by
 have:R.rayAt s d 0=0#64:=by
  unfold R.rayAt R.steps B.put
  rw [B.one_out s h]
  exact B.shift_zero d
 exact R.rayAt_zero s d 0 this 8 om
theorem R.ray_end(s:Int)(d:Nat)(hd:d<8):R.rayAt s d 8=0#64:=by
 by_cases h:s<0∨64≤s
 ·exact R.ray_out s d h
 ·have:=R.ray_ends ⟨s.toNat,by omega⟩ ⟨d,hd⟩
  simpa [Int.toNat_of_nonneg (show 0≤s by omega)]using this
theorem zb8(s:Int)(d:Nat)(w:World)(hd:d<8):
  cB 382 #[.int .i64 s,.int .i64 (d:Int)] w (.int .u64 (U (R.ray s d))):=by
 go_enter func382,ntmps382
 go_wp2_with (go_at_call 204;refine(zad s _ 1 [d] _ rfl om (by simpa using hd) sp (zai _ [d] _)).mono ?_;rintro e w1 ⟨rfl,hb1⟩)
 have hb:Below w.heap.size w w1:=bA.trans (hb1.mono sp)
 have Hb:=hid hb
 clear hb hb1
 go_loopg [5,6] 8 (fun g v x wr=>∃k:Nat,k+g=8∧v= .int .u64 (U (R.orTo (R.rayAt s d) k))∧x= .int .u64 (U (R.rayAt s d k))∧Below w.heap.size w wr)
 case atStart=>exact⟨0,rfl,rfl,rfl,Hb⟩
 case round=>
  obtain⟨k,hk,rfl,rfl,hbr⟩:=hrel
  by_cases hz:R.rayAt s d k=0#64
  ·have hq:(U (R.rayAt s d k)==0)=true:=by rw [U_zero];simpa using hz
   have Hz:=hid hz
   clear hz
   have hq2:(U (R.rayAt s d k) !=0)=false:=by rw [bne,hq];rfl
   go_wp2
   go_ret
   exact⟨ret_int (by unfold R.ray;rw [R.orTo_zero _ k (R.rayAt_zero s d k Hz.out) 8 om]),hbr⟩
  ·have hq:(U (R.rayAt s d k)==0)=false:=by rw [U_zero];simpa using hz
   have hq2:(U (R.rayAt s d k) !=0)=true:=by rw [bne,hq];rfl
   have hk8:k<8:=by
    apply Classical.byContradiction
    intro hn
    obtain rfl:k=8:=by omega
    exact hz (R.ray_end s d hd)
   have Hz:=hid hz
   clear hz
   go_wp2_with (go_at_call 286;refine(zcu _ _ hd _).mono ?_;rintro e w2 ⟨rfl,hb2⟩)
   go_roundg (gk-1)
   case measure=>omega
   case rel=>exact⟨k+1,by omega,rfl,rfl,za hbr hb2⟩
def KnS(B:Nat)(s:Int)(w w':World):Prop:=w'.cell? ⟨B,0,none⟩=some (.int .i64 s)∧Below w.heap.size w w'
theorem zak{B:Nat}{s:Int}{w w':World}(h:KnS B s w w')(o:Obj):KnS B s w (w'.alloc o):=by
 refine⟨?_,h.2.alloc h.2.size o⟩
 rw [World.cell?_alloc_lt _ _ _ (World.block_lt_of_cell? w' ⟨B,0,none⟩ h.1)];exact h.1
theorem zax{B:Nat}{s:Int}{w w':World}(h:KnS B s w w'):KnS B s w w'.drew:=⟨h.1,h.2.drew⟩
theorem zaz{B:Nat}{s:Int}{w w' w2:World}(h:KnS B s w w')(k:Below w'.heap.size w' w2):KnS B s w w2:=
 ⟨(k.cell (p:=⟨B,0,none⟩) (World.block_lt_of_cell? w' ⟨B,0,none⟩ h.1)).trans h.1,za h.2 k⟩
theorem rsteps2(s:Int)(b d e:Nat)(w:World)(hd:d<8)(he:e<8)(hb:b<w.heap.size)(c0:w.cell? ⟨b,0,none⟩=some (.int .i64 (d:Int)))(c1:w.cell? ⟨b,1,none⟩=some (.int .i64 (e:Int))):
  Calls prog 204 #[.int .i64 s,.slice (some ⟨b,0,none⟩) 2 2] w fun x w'=>x= .returned (.int .u64 (U (R.steps s [d,e])))∧Below w.heap.size w w':=by
 refine zad s b 2 [d,e] w rfl om (by simp [hd,he]) hb (fun j x h=> ?_)
 match j,h with
 |0,h=>simp at h;subst h;exact c0
 |1,h=>simp at h;subst h;exact c1
theorem zel(s:Int)(B d:Nat)(w:World)(hd:d<8)(h2:d % 2=1):
  cB 363 #[.int .i64 (d:Int),.pointer (some ⟨B,0,none⟩)] w (.int .u64 (U (R.knight1 s d))):=by
 have hv:=hid (show U (R.knight1 s d)=0 by unfold R.knight1;rw [if_pos h2];rfl)
 have hd4:d=1∨d=3∨d=5∨d=7:=by omega
 clear hd h2
 rcases hd4 with rfl|rfl|rfl|rfl
 all_goals
  go_enter func363,ntmps363
  go_wp2
  go_ret
  exact⟨ret_int hv.out.symm,Below.refl _ _⟩
theorem zha(s:Int)(B:Nat)(w:World)(hB:w.cell? ⟨B,0,none⟩=some (.int .i64 s)):
  cB 363 #[.int .i64 0,.pointer (some ⟨B,0,none⟩)] w (.int .u64 (U (bOr (R.steps s [0,1]) (R.steps s [0,7])))):=by
 have hS0:KnS B s w w:=⟨hB,Below.refl _ _⟩
 have HS0:=hid hS0
 have f1:IntKind.i64.wrap 1=1:=by decide
 have f7:IntKind.i64.wrap 7=7:=by decide
 have f8:IntKind.i64.wrap 8=8:=by decide
 have m1:(1:Int).tmod 8=1:=by decide
 have m7:(7:Int).tmod 8=7:=by decide
 clear hS0
 go_enter func363,ntmps363
 go_wp2_with fail
 go_region_held3 (fun w'=>w'.cell? ⟨B,0,none⟩=some (.int .i64 s)∧Below w.heap.size w w') (first|assumption|exact zax HS0|exact zak asm _|exact zax (zak asm _)) (first|(go_at_call 204;first|(refine(rsteps2 s _ 0 1 _ dc dc ?_ ?_ ?_).mono ?_;(next=>first|omega|(simp;done)|(simp;omega));(next=>(simp;done));(next=>(simp;done));rintro e v1 ⟨rfl,hb1⟩;have hS1:KnS B s w v1:=zaz asm hb1;have hz1:=hb1.size;simp at hz1)|(refine(rsteps2 s _ 0 7 _ dc dc ?_ ?_ ?_).mono ?_;(next=>first|omega|(simp;done)|(simp;omega));(next=>first|(simp;done)|exact(hb1.cell (p:=⟨_,0,none⟩) (by simp<;>omega)).trans sp);(next=>first|(simp;done)|exact(hb1.cell (p:=⟨_,1,none⟩) (by simp<;>omega)).trans sp);rintro e v2 ⟨rfl,hb2⟩;have hS2:KnS B s w v2:=zaz asm hb2)))
 all_goals
  go_wp2
  go_ret
  exact⟨rfl,(And.right (by assumption:KnS B s w _))⟩
theorem zgn(s:Int)(B:Nat)(w:World)(hB:w.cell? ⟨B,0,none⟩=some (.int .i64 s)):
  cB 363 #[.int .i64 2,.pointer (some ⟨B,0,none⟩)] w (.int .u64 (U (bOr (R.steps s [2,3]) (R.steps s [2,1])))):=by
 have hS0:KnS B s w w:=⟨hB,Below.refl _ _⟩
 have HS0:=hid hS0
 have f1:IntKind.i64.wrap 1=1:=by decide
 have f3:IntKind.i64.wrap 3=3:=by decide
 have f9:IntKind.i64.wrap 9=9:=by decide
 have f10:IntKind.i64.wrap 10=10:=by decide
 have m3:(3:Int).tmod 8=3:=by decide
 have m9:(9:Int).tmod 8=1:=by decide
 clear hS0
 go_enter func363,ntmps363
 go_wp2_with fail
 go_region_held3 (fun w'=>w'.cell? ⟨B,0,none⟩=some (.int .i64 s)∧Below w.heap.size w w') (first|assumption|exact zax HS0|exact zak asm _|exact zax (zak asm _)) (first|(go_at_call 204;first|(refine(rsteps2 s _ 2 3 _ dc dc ?_ ?_ ?_).mono ?_;(next=>first|omega|(simp;done)|(simp;omega));(next=>(simp;done));(next=>(simp;done));rintro e v1 ⟨rfl,hb1⟩;have hS1:KnS B s w v1:=zaz asm hb1;have hz1:=hb1.size;simp at hz1)|(refine(rsteps2 s _ 2 1 _ dc dc ?_ ?_ ?_).mono ?_;(next=>first|omega|(simp;done)|(simp;omega));(next=>first|(simp;done)|exact(hb1.cell (p:=⟨_,0,none⟩) (by simp<;>omega)).trans sp);(next=>first|(simp;done)|exact(hb1.cell (p:=⟨_,1,none⟩) (by simp<;>omega)).trans sp);rintro e v2 ⟨rfl,hb2⟩;have hS2:KnS B s w v2:=zaz asm hb2)))
 all_goals
  go_wp2
  go_ret
  exact⟨rfl,(And.right (by assumption:KnS B s w _))⟩
theorem zgr(s:Int)(B:Nat)(w:World)(hB:w.cell? ⟨B,0,none⟩=some (.int .i64 s)):
  cB 363 #[.int .i64 4,.pointer (some ⟨B,0,none⟩)] w (.int .u64 (U (bOr (R.steps s [4,5]) (R.steps s [4,3])))):=by
 have hS0:KnS B s w w:=⟨hB,Below.refl _ _⟩
 have HS0:=hid hS0
 have f1:IntKind.i64.wrap 1=1:=by decide
 have f3:IntKind.i64.wrap 3=3:=by decide
 have f5:IntKind.i64.wrap 5=5:=by decide
 have f11:IntKind.i64.wrap 11=11:=by decide
 have f12:IntKind.i64.wrap 12=12:=by decide
 have m5:(5:Int).tmod 8=5:=by decide
 have m11:(11:Int).tmod 8=3:=by decide
 clear hS0
 go_enter func363,ntmps363
 go_wp2_with fail
 go_region_held3 (fun w'=>w'.cell? ⟨B,0,none⟩=some (.int .i64 s)∧Below w.heap.size w w') (first|assumption|exact zax HS0|exact zak asm _|exact zax (zak asm _)) (first|(go_at_call 204;first|(refine(rsteps2 s _ 4 5 _ dc dc ?_ ?_ ?_).mono ?_;(next=>first|omega|(simp;done)|(simp;omega));(next=>(simp;done));(next=>(simp;done));rintro e v1 ⟨rfl,hb1⟩;have hS1:KnS B s w v1:=zaz asm hb1;have hz1:=hb1.size;simp at hz1)|(refine(rsteps2 s _ 4 3 _ dc dc ?_ ?_ ?_).mono ?_;(next=>first|omega|(simp;done)|(simp;omega));(next=>first|(simp;done)|exact(hb1.cell (p:=⟨_,0,none⟩) (by simp<;>omega)).trans sp);(next=>first|(simp;done)|exact(hb1.cell (p:=⟨_,1,none⟩) (by simp<;>omega)).trans sp);rintro e v2 ⟨rfl,hb2⟩;have hS2:KnS B s w v2:=zaz asm hb2)))
 all_goals
  go_wp2
  go_ret
  exact⟨rfl,(And.right (by assumption:KnS B s w _))⟩
theorem zfM(s:Int)(B:Nat)(w:World)(hB:w.cell? ⟨B,0,none⟩=some (.int .i64 s)):
  cB 363 #[.int .i64 6,.pointer (some ⟨B,0,none⟩)] w (.int .u64 (U (bOr (R.steps s [6,7]) (R.steps s [6,5])))):=by
 have hS0:KnS B s w w:=⟨hB,Below.refl _ _⟩
 have HS0:=hid hS0
 have f1:IntKind.i64.wrap 1=1:=by decide
 have f5:IntKind.i64.wrap 5=5:=by decide
 have f7:IntKind.i64.wrap 7=7:=by decide
 have f13:IntKind.i64.wrap 13=13:=by decide
 have f14:IntKind.i64.wrap 14=14:=by decide
 have m7:(7:Int).tmod 8=7:=by decide
 have m13:(13:Int).tmod 8=5:=by decide
 clear hS0
 go_enter func363,ntmps363
 go_wp2_with fail
 go_region_held3 (fun w'=>w'.cell? ⟨B,0,none⟩=some (.int .i64 s)∧Below w.heap.size w w') (first|assumption|exact zax HS0|exact zak asm _|exact zax (zak asm _)) (first|(go_at_call 204;first|(refine(rsteps2 s _ 6 7 _ dc dc ?_ ?_ ?_).mono ?_;(next=>first|omega|(simp;done)|(simp;omega));(next=>(simp;done));(next=>(simp;done));rintro e v1 ⟨rfl,hb1⟩;have hS1:KnS B s w v1:=zaz asm hb1;have hz1:=hb1.size;simp at hz1)|(refine(rsteps2 s _ 6 5 _ dc dc ?_ ?_ ?_).mono ?_;(next=>first|omega|(simp;done)|(simp;omega));(next=>first|(simp;done)|exact(hb1.cell (p:=⟨_,0,none⟩) (by simp<;>omega)).trans sp);(next=>first|(simp;done)|exact(hb1.cell (p:=⟨_,1,none⟩) (by simp<;>omega)).trans sp);rintro e v2 ⟨rfl,hb2⟩;have hS2:KnS B s w v2:=zaz asm hb2)))
 all_goals
  go_wp2
  go_ret
  exact⟨rfl,(And.right (by assumption:KnS B s w _))⟩
theorem zeh(s:Int)(B d:Nat)(w:World)(hd:d<8)(hB:w.cell? ⟨B,0,none⟩=some (.int .i64 s)):
  cB 363 #[.int .i64 (d:Int),.pointer (some ⟨B,0,none⟩)] w (.int .u64 (U (R.knight1 s d))):=by
 by_cases h:d % 2=1
 ·exact zel s B d w hd h
 ·have hd4:d=0∨d=2∨d=4∨d=6:=by omega
  rcases hd4 with rfl|rfl|rfl|rfl
  ·exact zha s B w hB
  ·exact zgn s B w hB
  ·exact zgr s B w hB
  ·exact zfM s B w hB
theorem zee(B:Nat)(g:Nat→BitVec 64)(w:World)(h:EachOk 363 B g w):
  cB 282 #[.func (.func 363) #[] #[.pointer (some ⟨B,0,none⟩)]] w (.int .u64 (U (R.orTo g 8))):=by
 have H:=hid h
 clear h
 go_enter func282,ntmps282
 go_wp2
 go_loopw [3,5] (fun v i wr=>∃k:Nat,k≤8∧i= .int .i64 (k:Int)∧v= .int .u64 (U (R.orTo g k))∧Below w.heap.size w wr) (fun _ i _=>8-(intOf i).toNat)
 case atStart=>exact⟨0,Nat.zero_le _,rfl,rfl,Below.refl _ _⟩
 case round=>
  obtain⟨k,hk,rfl,rfl,hbr⟩:=hrel
  by_cases hlt:k<8
  ·go_wp2_with (go_at_call 363;refine(H k _ hlt hbr).mono ?_;rintro e w1 ⟨rfl,hb1⟩)
   exact⟨⟨k+1,by omega,by go_num,rfl,za hbr hb1⟩,by simp [intOf];omega⟩
  ·obtain rfl:k=8:=by omega
   go_wp2
   go_ret
   exact⟨rfl,hbr⟩
theorem zcD(s:Int)(w:World):
  cB 334 #[.int .i64 s] w (.int .u64 (U (R.knight s))):=by
 have hE:EachOk 363 w.heap.size (R.knight1 s) (w.alloc (.cells #[.int .i64 s] 3)):=fun d w' hd hb=>zeh s _ d w' hd ((hb.cell (p:=⟨w.heap.size,0,none⟩) sp).trans (by rw [World.cell?_alloc_at _ _ _ _ rfl];rfl))
 have HE:=hid hE
 clear hE
 have hmf:∀(fn:Fn) (first cap:Array Value) (w:World),(Instr.makeFunc fn first cap).run prog w= .ok (.func fn first cap) w:=fun _ _ _ _=>rfl
 go_enter func334,ntmps334
 go_wp2_with (go_at_call 282;refine(zee _ _ _ HE).mono ?_;rintro e w1 ⟨rfl,hb1⟩)
 go_ret
 exact⟨rfl,bA.trans (hb1.mono sp)⟩
end
section
open Go.Shelf
def lays134_ren:Go.Shelf.Ren:=⟨fun|134=>386|129=>387|n=>n,fun|53=>23|3=>3|4=>4|46=>176|5=>5|9=>9|n=>n,fun|n=>n⟩
theorem lays134:Go.Proofs.Lays.n134 prog lays134_ren:={
 mixed:=by kernel_rfl
 f129:=func387.trans (congrArg some kr)
 f134:=func386.trans (congrArg some kr)
 t3:=underlying3
 a3:=isAgg3
 z3:=sizeOf3
 v3:=zeroValue3
 t4:=underlying4
 a4:=isAgg4
 z4:=sizeOf4
 v4:=zeroValue4
 t5:=underlying5
 a5:=isAgg5
 z5:=sizeOf5
 v5:=zeroValue5
 t9:=underlying9
 a9:=isAgg9
 z9:=sizeOf9
 v9:=zeroValue9
 t46:=underlying176
 a46:=isAgg176
 z46:=sizeOf176
 v46:=zeroValue176
 t53:=underlying23
 a53:=isAgg23
 z53:=sizeOf23
 v53:=zeroValue23}
theorem bits_LeadingZeros64(x:Int)(w:World)(h0:0≤x)(h1:x≤18446744073709551615):
 cR 386 #[.int .u64 x] w (.int .i64 (64-(Lib.bitLen x.toNat:Int))) fun w'=>w'=w:=Any.bits_LeadingZeros64 lays134 x w h0 h1
end
section
open Go.RowKit Go.ChangeShapes Go.WideShapes
theorem mapM_alike{α β:Type}{g h:α→Option β}:∀(l:List α),(∀a∈l,g a=h a)→l.mapM g=l.mapM h
 |[],_=>rfl
 |a::r,k=>by rw [List.mapM_cons,List.mapM_cons,k a (List.mem_cons_self ..),mapM_alike r fun b hb=>k b (List.mem_cons_of_mem _ hb)]
theorem zcG(g:TypeId→Option (List (Option IntKind))):∀(fs:List Field) (off:Nat) (ks:List (Option IntKind)),flatF g fs off=some ks→∀f∈fs,∃l,g f.type=some l
 |[],_,_,_,f,hf=>by cases hf
 |f0::fs,off,ks,h,f,hf=>by
  rw [flatF]at h
  split at h
  ·rw [Option.bind_eq_some_iff]at h
   obtain⟨l,hl,h⟩:=h
   rw [Option.map_eq_some_iff]at h
   obtain⟨r,hr,_⟩:=h
   rcases List.mem_cons.1 hf with rfl|hf
   ·exact⟨l,hl⟩
   ·exact zcG g fs _ r hr f hf
  ·cases h
section
variable {H:Type} {enc:TypeId×Value→H} {P:Program} {w w':World} {base base':Nat} {spare spare':Nat→Bool} {held held':Bool}
theorem zdu:∀(n:Nat) (t:TypeId) (ks:List (Option IntKind)),flat P n t=some ks→∀(fuel:Nat) (cs:List Value),DataW.trod enc P w base spare held fuel t cs=DataW.trod enc P w' base' spare' held' fuel t cs:=by
 intro n
 induction n with
 |zero=>intro t ks hf;cases hf
 |succ n ih=>
  intro t ks hf fuel cs
  cases fuel with
  |zero=>rfl
  |succ m=>
   unfold flat at hf
   unfold DataW.trod
   split at hf
   ·rename_i ht
    rw [ht]
    split<;>simp_all
   ·rename_i k ht
    rw [ht]
    split<;>simp_all
   ·rename_i fs ht
    rw [Option.bind_eq_some_iff]at hf
    obtain⟨ks',hf,_⟩:=hf
    rw [ht]
    have e:=mapM_alike (g:=fun f:Field=>DataW.trod enc P w base spare held m f.type ((cs.drop f.offset).take (P.cellsOf f.type))) (h:=fun f:Field=>DataW.trod enc P w' base' spare' held' m f.type ((cs.drop f.offset).take (P.cellsOf f.type))) fs.toList (fun f hm=>by
     obtain⟨l,hl⟩:=zcG _ _ _ _ hf f hm
     exact ih _ _ hl m _)
    simp only [e]
   ·rename_i k e ht
    rw [Option.bind_eq_some_iff]at hf
    obtain⟨l,hf,_⟩:=hf
    rw [ht]
    have e:=mapM_alike (g:=fun i:Nat=>DataW.trod enc P w base spare held m e ((cs.drop (i*P.cellsOf e)).take (P.cellsOf e))) (h:=fun i:Nat=>DataW.trod enc P w' base' spare' held' m e ((cs.drop (i*P.cellsOf e)).take (P.cellsOf e))) (List.range k) (fun i _=>ih _ _ hf m _)
    simp only [e]
   ·cases hf
end
section
variable {H:Type} {enc:TypeId×Value→H} {w w':World} {base base':Nat} {spare spare':Nat→Bool} {held held':Bool}
theorem shut_pos{v:Value}{d:DataW H}{p:List MemPlace}(h:DataW.Trod enc prog w base spare held 31 v d p):DataW.Trod enc prog w' base' spare' held' 31 v d p:=by
 obtain⟨fuel,h⟩:=h
 exact⟨fuel,by rw [←zdu 5 _ _ posFlat fuel];exact h⟩
end
end
end Go.Proofs.YtbakeajgolhkgaaGreatDoor
