import Derived.Test.YtbakeajgolhkgaaGreatDoorYai
set_option maxRecDepth 100000
set_option maxHeartbeats 8000000
open Go.Lib (hid)
namespace Go.Proofs.YtbakeajgolhkgaaGreatDoor
open Go.Proofs.Tryz
open Go.RowKit Go.Sort
namespace T
def within(s a b:Int):Bool:=(decide (a≤s)&&decide (s≤b))||(decide (b≤s)&&decide (s≤a))
def castles(v:Int):Bool:=decide (v<9)&&(v !=4&&v !=8)
end T
theorem zbd(v:Nat)(w:World):
  cB 170 #[.int .u8 (v:Int)] w (.bool (T.castles v)):=by
 have hv:∃s a b c d e l,V.of v= #[.string s,.bool a,.bool b,.bool c,.bool d,.bool e,.int .u8 l]∧T.castles v=c:=by
  by_cases h9:v<9
  ·match v,h9 with
   |0,_|1,_|2,_|3,_|4,_|5,_|6,_|7,_|8,_=>exact⟨_,_,_,_,_,_,_,rfl,rfl⟩
  ·refine⟨_,_,_,_,_,_,_,(by unfold V.of;split<;>first|omega|rfl),?_⟩<;>(unfold T.castles;rw [decide_eq_false om];rfl)
 obtain⟨s,a,b,c,d,e,l,hv,r0⟩:=hv
 have hk:=fun w=>of_k v w
 rw [hv]at hk
 rw [r0]
 clear hv r0
 have H:=hid hk
 clear hk
 have hfd:∀w,(Instr.field 224 (.agg #[.string s,.bool a,.bool b,.bool c,.bool d,.bool e,.int .u8 l]) 2).run prog w= .ok (.bool c) w:=fun _=>by kernel_rfl
 go_enter func170,ntmps170
 go_wp2_with (go_at_call 185;refine(H _).mono ?_;rintro e w1 ⟨rfl,hb1⟩)
 go_ret
 exact⟨rfl,hb1⟩
end Go.Proofs.YtbakeajgolhkgaaGreatDoor
