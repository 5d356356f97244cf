/- The walks of extent: Right, goes, Of, Pack at some sectors. The walk of extent.Pack at some sectors. The walk of inode.Right at any right node. The walk of inode.Pack at any right node (some minutes). -/
import Derived.Test.YtfkepfncgdlgoaaGreatDoorFsR
import Derived.Test.YtfkepfncgdlgoaaGreatDoorForest
import Derived.Test.YtfkepfncgdlgoaaGreatDoorUnpk
import Derived.BigQuiet
import Derived.Deep.RegionHeld3
namespace Go.Proofs.YtfkepfncgdlgoaaGreatDoor
open Go.RowKit Go.Maps
set_option linter.unusedVariables false
set_option linter.unusedSimpArgs false
set_option maxRecDepth 100000
set_option maxHeartbeats 8000000
theorem At.cellI {w:World} {a:Option Addr} {n cap:Nat} {l:List Int}(h:At (Value.int .i64) 0 w (.slice a n cap) l):l=[]∨∃b off,a=some ⟨b,off,none⟩∧b<w.heap.size∧∀i,i<l.length→w.cell? ⟨b,off+i,none⟩=some (.int .i64 (l.getD i 0)):=by
 obtain⟨a',cap',e,h1,h2,h3⟩:=h
 injection e with e1 e2 e3
 subst e1 e2 e3
 exact h3
def Secs (ps:List Int):Prop:=ps.length≤8∧∀p∈ps,0≤p∧p<256
theorem Secs.get {ps:List Int}(h:Secs ps) (i:Nat):0≤ps.getD i 0∧ps.getD i 0<256:=by
 rw[List.getD_eq_getElem?_getD]
 rcases e:ps[i]? with _|p
 ·simp
 ·simpa using h.2 p (List.mem_of_getElem? e)
theorem xrightN_is {w:World} {v:Value} {ps:List Int}(hv:At (Value.int .i64) 0 w v ps)(hs:Secs ps):Calls Tryz.prog 187 #[v] w fun e w'=>e=.returned (.int .i64 0)∧w=w':=by
 have hat:=hv
 obtain⟨a,cap,rfl,hl,hcm,-⟩:=hv
 have H8:=hs.1
 have HS:=Lib.hid hs
 obtain⟨n,hn⟩:∃n,n=ps.length:=⟨_,rfl⟩
 rw[← hn] at hat hl H8 ⊢
 have hn8:¬(8:Int)<n:=by omega
 have HN:=Lib.hid hn
 have HC:=Lib.hid hat.cellI
 clear hs hn hat
 go_enter Tryz.func187,Tryz.ntmps187
 go_wp2_with fail
 go_loopw [10] (fun iv wr=>∃j:Nat,j≤n∧iv=.int .i64 j∧wr=w) (fun iv _=>n-(intOf iv).toNat)
 case atStart=>exact⟨0,by omega,by simp⟩
 case round=>
  obtain⟨j,hj,rfl,rfl⟩:=hrel
  by_cases hlt:j<n
  ·have hji:(j:Int)<n:=by omega
   rcases HC.out with e|⟨b,off,rfl,hb,hc⟩
   ·rw[e] at HN;have:=HN.out;simp at this;omega
   have hcj:=hc j (by have:=HN.out;omega)
   obtain⟨p0,p1⟩:=HS.out.get j
   generalize ps.getD j 0=p at *
   have t0:¬p<0:=by omega
   have t1:¬(256:Int)≤p:=by omega
   clear hc
   go_wp2_with fail
   go_roundw
   case rel=>exact⟨j+1,by omega,by go_num,by trivial⟩
   case measure=>simp[intOf];omega
  ·obtain rfl:j=n:=by omega
   go_wp2_with fail
   go_ret
   exact⟨rfl,rfl⟩
theorem infoX:(Tryz.prog.info? 315).map (fun i=>(i.zero,i.size,i.bytes))=some (some (.agg #[.int .i64 0,.int .i64 0]),2,16):=by kernel_rfl
def appX:=Builtin.append_ #[311,311] 311
theorem appX_eq:Builtin.append_ #[311,311] 311=appX:=rfl
def xC (p:Int×Int):List Value:=[.int .i64 p.1,.int .i64 p.2]
theorem xC_len (l:List (Int×Int)):(l.flatMap xC).length=l.length*2:=by
 induction l with
 | nil=>rfl
 | cons x l ih=>rw[List.flatMap_cons,List.length_append,ih];simp[xC];omega
theorem xC_get:∀(l:List (Int×Int)) {i j:Nat} {x:Int×Int},l[i]?=some x→j<2→(l.flatMap xC)[i*2+j]?=(xC x)[j]?
 | [],i,j,x,h,_=>by simp at h
 | y::l,0,j,x,h,hj=>by
  simp only[List.getElem?_cons_zero,Option.some.injEq] at h
  subst h
  rw[List.flatMap_cons,List.getElem?_append_left (by simp[xC];omega),Nat.zero_mul,Nat.zero_add]
 | y::l,i+1,j,x,h,hj=>by
  rw[List.getElem?_cons_succ] at h
  rw[List.flatMap_cons,List.getElem?_append_right (by simp[xC];omega)]
  rw[show (i+1)*2+j-(xC y).length=i*2+j by simp[xC];omega]
  exact xC_get l h hj
def XL (B:Nat) (w:World) (v:Value) (l:List (Int×Int)):Prop:=w.ownsRow B 315 2 v l.length (l.flatMap xC)
theorem XL.nil (B:Nat) (w:World):XL B w (.slice none 0 0) []:=World.ownsRow_nil _ _ _ _
theorem XL.keep {B:Nat} {w w':World} {v:Value} {l:List (Int×Int)}(h:XL B w v l)(hb:Below w.heap.size w w'):XL B w' v l:=owns_keep h hb
theorem XL.opn {B:Nat} {w:World} {v:Value} {l:List (Int×Int)}(h:XL B w v l)(h0:l≠[]):∃g cap C,v=.slice (some ⟨g,0,none⟩) l.length cap∧B≤g∧l.length≤cap∧cap≤maxLen∧Row w g 315 C∧C.size=cap*2∧C.toList.take (l.length*2)=l.flatMap xC:=by
 rcases h.2 with ⟨_,hn⟩|⟨g,c,cur,he,hb,hg,hnc,hcm,hcs,ht⟩
 ·exact absurd (List.length_eq_zero_iff.1 hn) h0
 ·exact⟨g,c,cur,he,hb,hnc,hcm,hg,hcs,ht⟩
theorem XL.cell {w:World} {g:Nat} {C:Array Value} {l:List (Int×Int)}(hr:Row w g 315 C)(ht:C.toList.take (l.length*2)=l.flatMap xC) {i:Nat} {x:Int×Int}(hx:l[i]?=some x):w.cell? ⟨g,i*2,none⟩=some (.int .i64 x.1)∧w.cell? ⟨g,i*2+1,none⟩=some (.int .i64 x.2):=by
 have hi:i<l.length:=(List.getElem?_eq_some_iff.1 hx).1
 have k:∀j,j<2→w.cell? ⟨g,i*2+j,none⟩=(xC x)[j]?:=fun j hj=>by
  rw[hr.cell,← xC_get l hx hj,← ht,List.getElem?_take,if_pos (by omega),Array.getElem?_toList]
 exact⟨k 0 (by decide),k 1 (by decide)⟩
theorem XL.set {B:Nat} {w:World} {g cap:Nat} {l:List (Int×Int)}(h:XL B w (.slice (some ⟨g,0,none⟩) l.length cap) l) {i:Nat} {x:Int×Int}(hx:l[i]?=some x) (n:Int):XL B (w.setCell ⟨g,i*2+1,none⟩ (.int .i64 n)) (.slice (some ⟨g,0,none⟩) l.length cap) (l.set i (x.1,n)):=by
 have hi:i<l.length:=(List.getElem?_eq_some_iff.1 hx).1
 obtain⟨g',cap',C,e,hB,h1,h2,hr,hs,ht⟩:=h.opn (by intro e;rw[e] at hi;simp at hi)
 injection e with e1 e2 e3
 injection e1 with e1
 injection e1 with e1
 subst e1 e3
 refine⟨by rw[xC_len],.inr ⟨g,cap,C.setIfInBounds (i*2+1) (.int .i64 n),by rw[List.length_set],hB,?_,by rw[List.length_set];exact h1,h2,by rw[Array.size_setIfInBounds];exact hs,?_⟩⟩
 ·rw[hr.setCell]
  exact hr.setRow _
 ·rw[List.length_set]
  apply List.ext_getElem?
  intro k
  rw[List.getElem?_take]
  by_cases hk:k<l.length*2
  ·rw[if_pos hk,Array.getElem?_toList]
   obtain⟨y,hy⟩:∃y,l[k / 2]?=some y:=⟨_,List.getElem?_eq_getElem (by omega)⟩
   have ek:k=k / 2*2+k % 2:=by omega
   have k0:C[k]?=(xC y)[k % 2]?:=by
    rw[← xC_get l hy (Nat.mod_lt _ (by decide)),← ht,List.getElem?_take,← ek,if_pos hk,Array.getElem?_toList]
   by_cases e:k / 2=i
   ·have hy':(l.set i (x.1,n))[k / 2]?=some (x.1,n):=by rw[e,List.getElem?_set_self hi]
    have:(l.set i (x.1,n)).flatMap xC=(l.set i (x.1,n)).flatMap xC:=rfl
    conv=>rhs;rw[ek]
    rw[xC_get _ hy' (Nat.mod_lt _ (by decide))]
    rw[e,hx] at hy
    injection hy with hy
    subst hy
    by_cases e1:k % 2=1
    ·rw[show k=i*2+1 by omega,Array.getElem?_setIfInBounds,if_pos rfl,if_pos (by omega),show (i*2+1) % 2=1 by omega]
     rfl
    ·rw[Array.getElem?_setIfInBounds,if_neg (by omega),k0,show k % 2=0 by omega]
     rfl
   ·have hy':(l.set i (x.1,n))[k / 2]?=some y:=by rw[List.getElem?_set_ne (fun q=>e q.symm)];exact hy
    conv=>rhs;rw[ek]
    rw[xC_get _ hy' (Nat.mod_lt _ (by decide)),Array.getElem?_setIfInBounds,if_neg (by omega),k0]
  ·rw[if_neg hk,List.getElem?_eq_none (by rw[xC_len,List.length_set];omega)]
theorem XL.push {w:World} {B:Nat} {v:Value} {l:List (Int×Int)}(h:XL B w v l)(hB:B≤w.heap.size) (a b:Int)(h64:l.length<100000) :
  ∃p c w',(appX #[v,.slice (some ⟨w.heap.size,0,none⟩) 1 1]).run Tryz.prog (w.alloc (.cells #[.int .i64 a,.int .i64 b] 315))=.ok (.slice p (l.length+1) c) w'∧XL B w' (.slice p (l.length+1) c) (l++[(a,b)])∧Below B w w':=by
 have hal:=(Below.refl B w).alloc hB (.cells #[.int .i64 a,.int .i64 b] 315)
 obtain⟨i0,hi,hz0,hz1,hz2⟩:=info_parts infoX
 obtain⟨v',w',hr,ho,hg,-⟩:=run_append_fresh (P:=Tryz.prog) (w.alloc (.cells #[.int .i64 a,.int .i64 b] 315)) B 311 311 315 i0 _ 2 16 Tryz.underlying311 hi hz0 hz1 hz2 rfl (by decide) v l.length (l.flatMap xC) (owns_keep h (Go.Joins.below_alloc1 w _)) ⟨w.heap.size,0,none⟩ 1 1 [.int .i64 a,.int .i64 b] rfl (cells_new w [.int .i64 a,.int .i64 b] 315) (by intro u hu;simp at hu;rcases hu with rfl|rfl <;> rfl) (by unfold maxLen;omega) (by omega) (Nat.le_trans hB hal.size)
 have ho':XL B w' v' (l++[(a,b)]):=by
  unfold XL
  rw[List.length_append,List.flatMap_append]
  exact ho
 obtain⟨p,c,hv⟩:=own_form ho
 subst hv
 exact⟨p,c,w',hr,ho',hal.trans ((Below.refl B _).grown hg (Nat.le_trans hB hal.size) (fun g hgg=>(h.lt g hgg).1))⟩
def goesB (a n p:Int):Bool:=if a=0 then p == 0 else p == a+n
theorem xgoes_is (w:World) (a n p:Int)(ha:0≤a∧a<256)(hn:0≤n∧n≤8):Calls Tryz.prog 254 #[.agg #[.int .i64 a,.int .i64 n],.int .i64 p] w fun e w'=>e=.returned (.bool (goesB a n p))∧Below w.heap.size w w':=by
 have HB:=Lib.hid (Go.Joins.below_alloc1 w (.cells #[.int .i64 a,.int .i64 n] 315))
 have y1:IntKind.i64.wrap (a+n)=a+n:=IntWalk.i64_in _ (by omega)
 go_enter Tryz.func254,Tryz.ntmps254
 by_cases h0:a=0
 ·have hg:goesB a n p=(p == 0):=by unfold goesB;rw[if_pos h0]
  rw[hg]
  subst h0
  go_wp2_with fail
  go_ret
  exact⟨rfl,HB.out⟩
 ·have hg:goesB a n p=(p == a+n):=by unfold goesB;rw[if_neg h0]
  rw[hg]
  go_wp2_with fail
  go_ret
  exact⟨rfl,HB.out⟩
def XOk (l:List (Int×Int)) (n:Nat):Prop:=l.length≤n∧∀x∈l,(0≤x.1∧x.1<256)∧0≤x.2∧x.2≤n
theorem XOk.push {l:List (Int×Int)} {n:Nat}(h:XOk l n) {p:Int}(h0:0≤p)(h1:p<256):XOk (l++[(p,1)]) (n+1):=by
 refine⟨by have:=h.1;simp;omega,fun x hx=>?_⟩
 rcases List.mem_append.1 hx with hx|hx
 ·have:=h.2 x hx;omega
 ·simp at hx
  subst hx
  refine⟨⟨h0,h1⟩,?_,?_⟩ <;> simp
  omega
theorem XOk.set {l:List (Int×Int)} {n:Nat}(h:XOk l n) {i:Nat} {a b:Int}(hx:l[i]?=some (a,b)):XOk (l.set i (a,b+1)) (n+1):=by
 have hm:=h.2 _ (List.mem_of_getElem? hx)
 refine⟨by have:=h.1;rw[List.length_set];omega,fun x hx=>?_⟩
 rcases List.mem_or_eq_of_mem_set hx with hx|rfl
 ·have:=h.2 x hx;omega
 ·simp only at hm ⊢
  omega
def runStep (l:List (Int×Int)) (p:Int):List (Int×Int):=match l[l.length-1]? with
 | none=>l++[(p,1)]
 | some (a,n)=>if goesB a n p then l.set (l.length-1) (a,n+1) else l++[(p,1)]
def runsL (ps:List Int):List (Int×Int):=ps.foldl runStep []
theorem runsL_next (ps:List Int) {j:Nat}(hj:j<ps.length):runsL (ps.take (j+1))=runStep (runsL (ps.take j)) (ps.getD j 0):=by
 unfold runsL
 rw[List.take_add_one,List.getElem?_eq_getElem hj,Option.toList_some,List.foldl_append]
 simp[List.getD,List.getElem?_eq_getElem hj]
attribute [local go_sem ↓] appX_eq
theorem xofN_is {w:World} {v:Value} {ps:List Int}(hv:At (Value.int .i64) 0 w v ps)(hs:Secs ps):Calls Tryz.prog 188 #[v] w fun e w'=>∃v' l,e=.returned (.tuple #[v',.int .i64 0])∧XL w.heap.size w' v' l∧XOk l 8∧Below w.heap.size w w'∧l=runsL ps:=by
 have hat:=hv
 have HR:=Lib.hid (xrightN_is hv hs)
 obtain⟨a,cap,rfl,hl,hcm,-⟩:=hv
 have H8:=hs.1
 have HS:=Lib.hid hs
 obtain⟨n,hn⟩:∃n,n=ps.length:=⟨_,rfl⟩
 rw[← hn] at hat hl H8 HR ⊢
 have HN:=Lib.hid hn
 have HC:=Lib.hid hat.cellI
 clear hs hn hat
 go_enter Tryz.func188,Tryz.ntmps188
 go_wp2_with (go_at_call 187;refine HR.out.mono ?_;rintro e1 w1 ⟨rfl,rfl⟩)
 go_loopw [5,16] (fun ov iv wr=>∃j:Nat,j≤n∧iv=.int .i64 j∧Hid (∃l,XL w.heap.size wr ov l∧XOk l j∧l=runsL (ps.take j))∧Hid (Below w.heap.size w wr)) (fun _ iv _=>n-(intOf iv).toNat)
 case atStart=>exact⟨0,by omega,rfl,Lib.hid ⟨[],XL.nil _ _,by simp[XOk],rfl⟩,Lib.hid (Below.refl _ _)⟩
 case round=>
  obtain⟨j,hj,rfl,HX,HB⟩:=hrel
  obtain⟨l,hx,ho,hrl⟩:=HX.out
  have HRL:=Lib.hid hrl
  clear hrl
  by_cases hlt:j<n
  ·have hji:(j:Int)<n:=by omega
   rcases HC.out with e|⟨b,off,rfl,hb,hc⟩
   ·rw[e] at HN;have:=HN.out;simp at this;omega
   have hcj:=(HB.out.cell (p:=⟨b,off+j,none⟩) hb).trans (hc j (by have:=HN.out;omega))
   obtain⟨p0,p1⟩:=HS.out.get j
   have HNX:Hid (runsL (ps.take (j+1))=runStep l (ps.getD j 0)):=Lib.hid (by rw[runsL_next ps (by have:=HN.out;omega),← HRL.out])
   clear hc
   generalize ps.getD j 0=p at *
   have HP:=Lib.hid (And.intro p0 p1)
   have HQ:=Lib.hid hx
   by_cases hl0:l=[]
   ·subst hl0
    obtain⟨p5,c5,hv5⟩:=own_form hx
    simp only[List.length_nil] at hv5
    subst hv5
    obtain⟨p6,c6,w6,hap,hx6,hb6⟩:=hx.push HB.out.size p 1 (by decide)
    have HX6:Hid (XL w.heap.size w6 (.slice p6 1 c6) [(p,1)]∧XOk [(p,1)] (j+1)∧[(p,1)]=runsL (ps.take (j+1))):=Lib.hid ⟨hx6,ho.push p0 p1,HNX.out.symm⟩
    have HB6:=Lib.hid (HB.out.trans hb6)
    have hap:(appX #[.slice p5 0 c5,.slice (some ⟨wr.heap.size,0,none⟩) 1 1]).run Tryz.prog (wr.alloc (.cells #[.int .i64 p,.int .i64 1] 315))=.ok (.slice p6 1 c6) w6:=hap
    clear hx ho HX HQ hx6 hb6 p0 p1
    go_wp2_with fail
    go_roundw
    case rel=>exact⟨j+1,by omega,by go_num,Lib.hid ⟨_,HX6.out⟩,HB6⟩
    case measure=>simp[intOf];omega
   ·obtain⟨g,cp,C,hv5,hg0,hlc,hcx,hr,hs,ht⟩:=hx.opn hl0
    subst hv5
    obtain⟨m,hm⟩:∃m,l.length=m+1:=⟨l.length-1,by have:0<l.length:=List.length_pos_iff.2 hl0;omega⟩
    obtain⟨⟨xa,xb⟩,hlx⟩:∃x,l[m]?=some x:=⟨_,List.getElem?_eq_getElem (by omega)⟩
    obtain⟨c0,c1⟩:=XL.cell hr ht hlx
    have hxx:=ho.2 _ (List.mem_of_getElem? hlx)
    simp only at c0 c1 hxx
    have HM:=Lib.hid (And.intro hm hlx)
    have HO:=Lib.hid ho
    have hml:=ho.1
    have hgo:=xgoes_is wr xa xb p hxx.1 (by omega)
    have HST:Hid (runsL (ps.take (j+1))=if goesB xa xb p then l.set m (xa,xb+1) else l++[(p,1)]):=Lib.hid (by rw[HNX.out];unfold runStep;rw[hm,Nat.add_sub_cancel,hlx])
    have y0:IntKind.i64.wrap ((m:Int)+1-1)=m:=by rw[show (m:Int)+1-1=m by omega];exact IntWalk.i64_in _ (by omega)
    have y1:IntKind.i64.wrap (xb+1)=xb+1:=IntWalk.i64_in _ (by omega)
    have m0:(0:Int)≤m:=by omega
    have HR:=Lib.hid hr
    have hcp:(cp:Int)≤9223372036854775807:=by unfold maxLen at hcx;omega
    rw[hm]
    have mc:(m:Int)<m+1:=by omega
    clear hx ho HX hr ht hs hlx p0 p1
    rw[hm] at hlc
    clear hm
    cases hgb:goesB xa xb p
    ·rw[hgb,if_neg (by decide)] at HST
     rw[hgb] at hgo
     have HGO:=Lib.hid hgo
     clear hgo hgb
     go_upto_region 9 with fail
     go_wp2_with (go_at_call 254;(with_reducible refine HGO.out.mono ?_);rintro e2 w2 ⟨rfl,hb2⟩;have c2:=(HR.out.keep hb2).cell;have f2:=(HR.out.keep hb2).fz (m*2+1);have d1:w2.cell? ⟨g,m*2+1,none⟩=some (.int .i64 xb):=(hb2.cell HR.out.lt).trans c1;have HX2:=HQ.out.keep hb2;have HB2:=Lib.hid (HB.out.trans (hb2.mono HB.out.size));obtain⟨p6,c6,w6,hap,hx6,hb6⟩:=HX2.push HB2.out.size p 1 (by have:=HO.out.1;omega);rw[HM.out.1] at hap hx6;have HX6:=Lib.hid (And.intro hx6 (And.intro (HO.out.push HP.out.1 HP.out.2) HST.out.symm));have HB6:=Lib.hid (HB2.out.trans hb6);have HX5:Hid (XL w.heap.size (w2.setCell ⟨g,m*2+1,none⟩ (.int .i64 (xb+1))) (.slice (some ⟨g,0,none⟩) (m+1) cp) (l.set m (xa,xb+1))∧XOk (l.set m (xa,xb+1)) (j+1)):=Lib.hid (And.intro (by have:=HX2.set HM.out.2 (xb+1);rw[HM.out.1] at this;exact this) (HO.out.set HM.out.2));have HB5:Hid (Below w.heap.size w (w2.setCell ⟨g,m*2+1,none⟩ (.int .i64 (xb+1)))):=Lib.hid (HB2.out.setCell hg0 _);clear c2 HX2 hx6 hb6 c0 c1 hb2 HGO)
     go_roundw
     case rel=>exact⟨j+1,by omega,by go_num,Lib.hid ⟨_,HX6.out⟩,HB6⟩
     case measure=>simp[intOf];omega
    ·rw[hgb,if_pos rfl] at HST
     rw[hgb] at hgo
     have HGO:=Lib.hid hgo
     clear hgo hgb
     go_upto_region 9 with fail
     go_wp2_with (go_at_call 254;(with_reducible refine HGO.out.mono ?_);rintro e2 w2 ⟨rfl,hb2⟩;have c2:=(HR.out.keep hb2).cell;have f2:=(HR.out.keep hb2).fz (m*2+1);have d1:w2.cell? ⟨g,m*2+1,none⟩=some (.int .i64 xb):=(hb2.cell HR.out.lt).trans c1;have HX2:=HQ.out.keep hb2;have HB2:=Lib.hid (HB.out.trans (hb2.mono HB.out.size));obtain⟨p6,c6,w6,hap,hx6,hb6⟩:=HX2.push HB2.out.size p 1 (by have:=HO.out.1;omega);rw[HM.out.1] at hap hx6;have HX6:=Lib.hid (And.intro hx6 (HO.out.push HP.out.1 HP.out.2));have HB6:=Lib.hid (HB2.out.trans hb6);have HX5:Hid (XL w.heap.size (w2.setCell ⟨g,m*2+1,none⟩ (.int .i64 (xb+1))) (.slice (some ⟨g,0,none⟩) (m+1) cp) (l.set m (xa,xb+1))∧XOk (l.set m (xa,xb+1)) (j+1)∧l.set m (xa,xb+1)=runsL (ps.take (j+1))):=Lib.hid ⟨by have:=HX2.set HM.out.2 (xb+1);rw[HM.out.1] at this;exact this,HO.out.set HM.out.2,HST.out.symm⟩;have HB5:Hid (Below w.heap.size w (w2.setCell ⟨g,m*2+1,none⟩ (.int .i64 (xb+1)))):=Lib.hid (HB2.out.setCell hg0 _);clear c2 HX2 hx6 hb6 c0 c1 hb2 HGO)
     go_roundw
     case rel=>exact⟨j+1,by omega,by go_num,Lib.hid ⟨_,HX5.out⟩,HB5⟩
     case measure=>simp[intOf];omega
  ·obtain rfl:j=n:=by omega
   have hq:∃p m c,u5=.slice p m c:=by obtain⟨p,c,e⟩:=own_form hx;exact⟨_,_,_,e⟩
   obtain⟨p5,m5,c5,rfl⟩:=hq
   have HX1:=Lib.hid (And.intro hx (show XOk l 8 from⟨by have:=ho.1;omega,fun x hx=>by have:=ho.2 x hx;omega⟩))
   clear hx ho HX
   go_wp2_with fail
   go_ret2
   exact⟨_,l,rfl,HX1.out.1,HX1.out.2,HB.out,by rw[HRL.out,List.take_of_length_le (by have:=HN.out;omega)]⟩
def pkX (l:List (Int×Int)) (j:Nat):List Int:=((l.take j).flatMap fun x=>[x.1 % 256,x.2 % 256])++zeros (16-2*j)
def pk16 (ps:List Int):List Int:=pkX (runsL ps) (runsL ps).length
theorem pkX_flen:∀l:List (Int×Int),(l.flatMap fun x=>[x.1 % 256,x.2 % 256]).length=2*l.length
 | []=>rfl
 | x::l=>by rw[List.flatMap_cons,List.length_append,pkX_flen l];simp;omega
theorem pkX_next {l:List (Int×Int)} {j:Nat} {a b:Int}(h:l[j]?=some (a,b))(h8:l.length≤8):((pkX l j).set (2*j) (a % 256)).set (2*j+1) (b % 256)=pkX l (j+1):=by
 have hj:j<l.length:=(List.getElem?_eq_some_iff.1 h).1
 have hl:((l.take j).flatMap fun x=>[x.1 % 256,x.2 % 256]).length=2*j:=by rw[pkX_flen,List.length_take];omega
 unfold pkX
 rw[List.set_append_right _ _ (by omega),List.set_append_right _ _ (by omega),hl,Nat.sub_self,show 2*j+1-2*j=1 by omega,show 16-2*j=(16-2*(j+1))+1+1 by omega]
 rw[List.take_add_one,h,Option.toList_some,List.flatMap_append]
 simp[zeros,List.replicate_succ]
attribute [local go_sem ↓] mkB_eq
theorem xpackN_is {w:World} {v:Value} {ps:List Int}(hv:At (Value.int .i64) 0 w v ps)(hs:Secs ps):Calls Tryz.prog 108 #[v] w fun e w'=>∃v' l,e=.returned (.tuple #[v',.int .i64 0])∧OB w.heap.size w' v' l∧l.length=16∧Below w.heap.size w w'∧l=pk16 ps:=by
 have HR:=Lib.hid (xofN_is hv hs)
 obtain⟨a,cap,rfl,hl,hcm,-⟩:=hv
 clear hs
 go_enter Tryz.func108,Tryz.ntmps108
 go_upto_region 4 with (go_at_call 188;(with_reducible refine HR.out.mono ?_);rintro e1 w1 ⟨v1,l,rfl,hx,ho,hb,hrl⟩)
 obtain⟨p1,c1,hv1⟩:=own_form hx
 subst hv1
 have hmk:=mkB16 w1
 have HBK:=Lib.hid (bk_new w1 (zeros 16))
 have hal:=Go.Joins.below_alloc1 w1 (.cells ((zeros 16).map u8V).toArray 5)
 have HX:=Lib.hid (hx.keep hal)
 have HB:=Lib.hid (hb.trans (hal.mono hb.size))
 have HG:Hid (w.heap.size≤w1.heap.size∧w1.heap.size<(w1.alloc (.cells ((zeros 16).map u8V).toArray 5)).heap.size∧p1≠some ⟨w1.heap.size,0,none⟩):=Lib.hid ⟨hb.size,by simp,fun e=>by
    subst e
    have:=(hx.lt w1.heap.size rfl).2
    omega⟩
 have HO:=Lib.hid ho
 have HRL:=Lib.hid hrl
 clear hrl
 have h8:=ho.1
 obtain⟨n,hn⟩:∃n,n=l.length:=⟨_,rfl⟩
 have HN:=Lib.hid hn
 rw[← hn] at h8 HX ⊢
 clear hn hx ho hb hal
 generalize w1.alloc (.cells ((zeros 16).map u8V).toArray 5)=w2 at *
 generalize w1.heap.size=g at *
 go_wp2_with fail
 go_loopw [20] (fun iv wr=>∃j:Nat,j≤n∧iv=.int .i64 j∧Hid (∃bs,BK wr g bs∧bs.length=16∧bs=pkX l j)∧Hid (XL w.heap.size wr (.slice p1 n c1) l)∧Hid (Below w.heap.size w wr)) (fun iv _=>n-(intOf iv).toNat)
 case atStart=>exact⟨0,by omega,rfl,Lib.hid ⟨_,HBK.out,by decide,rfl⟩,HX,HB⟩
 case round=>
  obtain⟨j,hj,rfl,HK,HX1,HB1⟩:=hrel
  obtain⟨bs,hk,hbl,hbe⟩:=HK.out
  have HBE:=Lib.hid hbe
  clear hbe
  by_cases hlt:j<n
  ·have hji:(j:Int)<n:=by omega
   have hx:=HX1.out
   rw[HN.out] at hx
   obtain⟨g1,cp,C,hv5,hg0,hlc,hcx,hr,hs,ht⟩:=hx.opn (by intro e;have:=HN.out;rw[e] at this;simp at this;omega)
   injection hv5 with e1 e2 e3
   subst e1 e3
   obtain⟨⟨xa,xb⟩,hlx⟩:∃x,l[j]?=some x:=⟨_,List.getElem?_eq_getElem (by have:=HN.out;omega)⟩
   obtain⟨d0,d1⟩:=XL.cell hr ht hlx
   simp only at d0 d1
   have ne:¬g1=g:=fun e=>HG.out.2.2 (by rw[e])
   have HNE:=Lib.hid ne
   rw[← HN.out] at hlc
   have hcp:(c1:Int)≤9223372036854775807:=by unfold maxLen at hcx;omega
   have y1:IntKind.i64.wrap (2*(j:Int))=2*j:=IntWalk.i64_in _ (by omega)
   have y2:IntKind.i64.wrap (2*(j:Int)+1)=2*j+1:=IntWalk.i64_in _ (by omega)
   have z0:(0:Int)≤2*j:=by omega
   have z1:(0:Int)≤2*j+1:=by omega
   have z2:(2:Int)*j<16:=by omega
   have z3:(2:Int)*j+1<16:=by omega
   have HNX:Hid (((bs.set (2*j) (xa % 256)).set (2*j+1) (xb % 256))=pkX l (j+1)):=Lib.hid (by rw[HBE.out];exact pkX_next hlx HO.out.1)
   clear hx hr hs ht hlx ne
   go_upto_region 8 with fail
   have hal:=Go.Joins.below_alloc1 wr (.cells #[.int .i64 xa,.int .i64 xb] 315)
   have hr2:=row_new wr 315 #[.int .i64 xa,.int .i64 xb]
   have q0:(wr.alloc (.cells #[.int .i64 xa,.int .i64 xb] 315)).cell? ⟨wr.heap.size,0,none⟩=some (.int .i64 xa):=by rw[hr2.cell];rfl
   have q1:(wr.alloc (.cells #[.int .i64 xa,.int .i64 xb] 315)).cell? ⟨wr.heap.size,1,none⟩=some (.int .i64 xb):=by rw[hr2.cell];rfl
   have hk2:=hk.keep hal
   have HX2:=Lib.hid (HX1.out.keep hal)
   have HB2:=Lib.hid (HB1.out.trans (hal.mono HB1.out.size))
   have ne1:¬wr.heap.size=g:=fun e=>by have:=hk.lt;omega
   have ne2:¬g=wr.heap.size:=fun e=>ne1 e.symm
   clear hr2 hal HX1 HB1 hk HK d0 d1
   generalize wr.alloc (.cells #[.int .i64 xa,.int .i64 xb] 315)=w3 at *
   generalize wr.heap.size=nb at *
   obtain⟨x0,s0⟩:∃x,w3.cell? ⟨g,2*j,none⟩=some (Value.int .u8 x):=⟨_,hk2.cell (i:=2*j) (by omega)⟩
   obtain⟨x1,s1⟩:∃x,w3.cell? ⟨g,2*j+1,none⟩=some (Value.int .u8 x):=⟨_,hk2.cell (i:=2*j+1) (by omega)⟩
   have fz:∀j,w3.frozen? ⟨g,j,none⟩=false:=fun j=>by have hb2:=hk2;unfold BK at hb2;simp[World.frozen?,hb2]
   have f0:=fz (2*j)
   have f1:=fz (2*j+1)
   have HK2:=Lib.hid hk2
   clear fz hk2
   go_region
   have e5:(w3.setCell ⟨g,2*j,none⟩ (.int .u8 (xa % 256))).setCell ⟨g,2*j+1,none⟩ (.int .u8 (xb % 256))=w3.setRow g (((bs.set (2*j) (xa % 256)).set (2*j+1) (xb % 256)).map u8V).toArray:=by
    rw[HK2.out.setCell,(HK2.out.setRow _).setCell,setRow_setRow]
   have hk5:BK (w3.setRow g (((bs.set (2*j) (xa % 256)).set (2*j+1) (xb % 256)).map u8V).toArray).drew g _:=HK2.out.setRow _
   have u5:Upd (fun k=>k=g) w3 (w3.setRow g (((bs.set (2*j) (xa % 256)).set (2*j+1) (xb % 256)).map u8V).toArray).drew:=(Upd.setRow (S:=fun k=>k=g) _ _ rfl).trans (Upd.drew _)
   have HK5:=Lib.hid (And.intro hk5 (And.intro (show ((bs.set (2*j) (xa % 256)).set (2*j+1) (xb % 256)).length=16 by rw[List.length_set,List.length_set];exact hbl) HNX.out))
   have HX5:Hid (XL w.heap.size (w3.setRow g (((bs.set (2*j) (xa % 256)).set (2*j+1) (xb % 256)).map u8V).toArray).drew (.slice (some ⟨g1,0,none⟩) n c1) l):=Lib.hid (u5.owns HX2.out (fun k e q=>HNE.out (by injection e with e;exact e.trans q)))
   have HB5:=Lib.hid (HB2.out.trans (u5.toBelow HB2.out.size (fun k hk q=>by have:=HG.out.1;omega)))
   rw[e5]
   generalize (w3.setRow g (((bs.set (2*j) (xa % 256)).set (2*j+1) (xb % 256)).map u8V).toArray).drew=w5 at *
   clear e5 hk5 u5 HK2 HX2 HB2
   go_wp2_with fail
   go_roundw
   case rel=>exact⟨j+1,by omega,by go_num,Lib.hid ⟨_,HK5.out⟩,HX5,HB5⟩
   case measure=>simp[intOf];omega
  ·obtain rfl:j=n:=by omega
   have HK1:=Lib.hid (And.intro (ob_of_bk hk HG.out.1 (by rw[hbl];decide) (c:=16) hbl.symm) hbl)
   rw[hbl] at HK1
   clear hk HK
   go_wp2_with fail
   go_ret2
   exact⟨_,rfl,bs,HK1.out.1,hbl,HB1.out,by rw[HBE.out,HN.out,HRL.out];rfl⟩
structure NdOk (x:Nd):Prop where
 k:1≤x.k∧x.k≤3
 m:0≤x.m∧x.m≤511
 u:0≤x.u∧x.u≤255
 g:0≤x.g∧x.g≤255
 l:0≤x.l∧x.l≤200
 up:(x.k=2∧1≤x.up∧x.up≤32)∨(x.k≠2∧x.up=0)
 ps:Secs x.ps
 sz:∃n:Nat,x.sz=n∧n≤512∧x.ps.length=(n+63) / 64
theorem blocksN_is (w:World) (n:Nat)(h1:n≤100000):Calls Tryz.prog 128 #[.int .i64 n] w fun e w'=>e=.returned (.int .i64 ((n+63) / 64:Nat))∧w=w':=by
 by_cases h0:n=0
 ·subst h0
  exact blocks0_is w
 ·have:=blocks_is w n (by omega) h1
  rw[show (n-1) / 64+1=(n+63) / 64 by omega] at this
  exact this
theorem irightN_is {w:World} {x:Nd}(hp:At (Value.int .i64) 0 w x.pv x.ps)(hx:NdOk x):Calls Tryz.prog 107 #[.agg (ndA x)] w fun e w'=>e=.returned (.int .i64 0)∧Below w.heap.size w w':=by
 have HB:=Lib.hid (Go.Joins.below_alloc1 w (.cells (ndA x) 120))
 have hp1:=hp.keep HB.out
 have HR:=Lib.hid (xrightN_is hp1 hx.ps)
 obtain⟨n,hn,h512,hpl⟩:=hx.sz
 have HBL:=Lib.hid (fun w=>blocksN_is w n (by omega))
 rw[← hpl] at HBL
 obtain⟨a,cap,hpv,hl,hcm,-⟩:=hp
 obtain⟨⟨k1,k3⟩,⟨m0,m1⟩,⟨u0,u1⟩,⟨g0,g1⟩,⟨l0,l1⟩,hup,-,-⟩:=hx
 have hcp:(cap:Int)≤9223372036854775807:=by unfold maxLen at hcm;omega
 obtain⟨L,hL⟩:∃L,L=x.ps.length:=⟨_,rfl⟩
 rw[← hL] at hpv hl HBL
 rw[hpv] at HR
 unfold ndA at HB HR ⊢
 rw[hpv,hn] at HB HR ⊢
 rw[hn] at *
 have hk0:¬x.k=0:=by omega
 have hk1:¬x.k<0:=by omega
 have hk2:¬3<x.k:=by omega
 have hm1:¬x.m<0:=by omega
 have hm2:¬511<x.m:=by omega
 have hu1:¬x.u<0:=by omega
 have hu2:¬255<x.u:=by omega
 have hg1:¬x.g<0:=by omega
 have hg2:¬255<x.g:=by omega
 have hl1:¬x.l<0:=by omega
 have hl2:¬200<x.l:=by omega
 have hn1:¬(n:Int)<0:=by omega
 have hn2:¬(512:Int)<n:=by omega
 have hq:(x.k=2∧¬x.up<1∧¬32<x.up)∨(¬x.k=2∧x.up=0):=by omega
 clear hpl hL hpv hp1 hup k1 k3 m0 m1 u0 u1 g0 g1 l0 l1 hn
 obtain⟨xk,xm,xu,xg,xs,xl,xup,xpv,xps⟩:=x
 simp only at *
 rcases hq with ⟨rfl,q1,q2⟩|⟨q1,rfl⟩
 all_goals
  go_enter Tryz.func107,Tryz.ntmps107
  go_upto_region 14 with (go_at_call 187;refine HR.out.mono ?_;rintro e1 w1 ⟨rfl,rfl⟩)
  go_region_with (go_at_call 128;refine(HBL.out _).mono ?_;rintro e1 w1 ⟨rfl,rfl⟩)
  all_goals
   go_wp2_with fail
   go_ret
   exact⟨rfl,HB.out.drew⟩
theorem copy9 {w:World} {g:Nat} {b:List Int}(hg:BK w g b)(hb:b.length=32) {a:Addr} {c:Nat} {z:List Int}(hz:At (Value.int .u8) 0 w (.slice (some a) 16 c) z)(hn:z.length=16) :
  ∃w',(copyB #[.slice (some ⟨g,9,none⟩) 23 23,.slice (some a) 16 c]).run Tryz.prog w=.ok (.int .i64 16) w'∧BK w' g (splice b 9 z)∧Upd (fun k=>k=g) w w':=by
 obtain⟨a',cap,e,h1,h2,h3⟩:=hz
 injection e with e1 e2 e3
 subst e1 e3
 have e0:z≠[]:=by intro q;rw[q] at hn;cases hn
 obtain⟨bk,off,hab,hlt,hc⟩:=h3.resolve_left e0
 injection hab with hab
 subst hab
 have hr:=run_copyB (o:=9) (dL:=23) (dC:=23) (sL:=16) (sC:=c) hg (by rw[hn];rfl) hc (by rw[hn,hb];decide)
 rw[hn] at hr
 exact⟨_,hr,hg.setRow _,Upd.setRow w _ rfl⟩
attribute [local go_sem ↓] mkB_eq ld_ino copyB_eq
def ndH (x:Nd):List Int:=(((((((((zeros 32).set 0 (IntKind.u8.wrap x.k)).set 1 (IntKind.u8.wrap x.m)).set 2 (IntKind.u8.wrap (x.m / 256))).set 3 (IntKind.u8.wrap x.u)).set 4 (IntKind.u8.wrap x.g)).set 5 (IntKind.u8.wrap x.sz)).set 6 (IntKind.u8.wrap (x.sz / 256))).set 7 (IntKind.u8.wrap x.l)).set 8 (IntKind.u8.wrap x.up)
def ndL (x:Nd):List Int:=splice (ndH x) 9 (pk16 x.ps)
theorem ipackNb_is {w:World} {x:Nd}(hp:At (Value.int .i64) 0 w x.pv x.ps)(hx:NdOk x)(hpb:∀j,x.pv.ownBlock=some j→j<w.heap.size):Calls Tryz.prog 44 #[.agg (ndA x)] w fun e w'=>∃g l,e=.returned (.tuple #[.slice (some ⟨g,0,none⟩) 32 32,.int .i64 0])∧w.heap.size≤g∧BK w' g l∧l.length=32∧Below w.heap.size w w'∧l=ndL x:=by
 have HB:=Lib.hid (Go.Joins.below_alloc1 w (.cells (ndA x) 120))
 have HR:=Lib.hid (row_new w 120 (ndA x))
 have l0:=HR.out.ld0 Tryz.underlying120 rfl (by rw[ndA_size];kernel_rfl)
 have HP0:=Lib.hid (hp.keep HB.out)
 have HRI:=Lib.hid (irightN_is HP0.out hx)
 have HX:=Lib.hid hx
 have hk0:¬x.k=0:=by have:=hx.k;omega
 obtain⟨a,cap,hpv,hl,hcm,-⟩:=hp
 obtain⟨L,hL⟩:∃L,L=x.ps.length:=⟨_,rfl⟩
 rw[← hL] at hpv hl
 rw[hpv] at HP0
 obtain⟨xk,xm,xu,xg,xs,xl,xup,xpv,xps⟩:=x
 simp only at *
 subst hpv
 have HN:=Lib.hid (show ndA ⟨xk,xm,xu,xg,xs,xl,xup,.slice a L cap,xps⟩=#[.int .i64 xk,.int .i64 xm,.int .i64 xu,.int .i64 xg,.int .i64 xs,.int .i64 xl,.int .i64 xup,.slice a L cap] from rfl)
 have HPS:=Lib.hid (hx.ps)
 simp only at HPS
 clear hx HX hL hl hcm hpb
 generalize ndA ⟨xk,xm,xu,xg,xs,xl,xup,.slice a L cap,xps⟩=A at *
 go_enter Tryz.func44,Tryz.ntmps44
 go_upto_region 1 with fail
 generalize w.alloc (.cells A 120)=w0 at *
 go_upto_region 2 with (go_at_call 107;refine HRI.out.mono ?_;rintro e1 w1 ⟨rfl,hb1⟩)
 have HB1:=Lib.hid (HB.out.trans (hb1.mono HB.out.size))
 have HB2:=Lib.hid (HB1.out.alloc HB1.out.size (.cells ((zeros 32).map u8V).toArray 5))
 have HR2:=Lib.hid (HR.out.keep hb1)
 have hr3:=HR2.out.alloc (.cells ((zeros 32).map u8V).toArray 5)
 have HP2:=Lib.hid ((HP0.out.keep hb1).keep (Go.Joins.below_alloc1 w1 (.cells ((zeros 32).map u8V).toArray 5)))
 have hmk:=mkB32 w1
 have HBK:=Lib.hid (bk_new w1 (zeros 32))
 have hlt:w.heap.size<w1.heap.size:=HR2.out.lt
 generalize w1.alloc (.cells ((zeros 32).map u8V).toArray 5)=w2 at *
 have HR3:=Lib.hid hr3
 clear l0 HR HRI hb1 hr3 HP0
 have c0:w2.cell? ⟨w.heap.size,0,none⟩=some (.int .i64 xk):=by rw[HR3.out.cell,HN.out];rfl
 have c7:w2.cell? ⟨w.heap.size,7,none⟩=some (.slice a L cap):=by rw[HR3.out.cell,HN.out];rfl
 have HPK:=Lib.hid (xpackN_is HP2.out HPS.out)
 go_upto_region 10 with (go_at_call 108;refine HPK.out.mono ?_;rintro e1 w3 ⟨v3,l3,rfl,ho3,hl3,hb3,hpk3⟩)
 have HPK3:=Lib.hid hpk3
 clear hpk3
 have hlt3:w1.heap.size<w2.heap.size:=HBK.out.lt
 have HB3:=Lib.hid (HB2.out.trans (hb3.mono HB2.out.size))
 have HR4:=Lib.hid (HR3.out.keep hb3)
 have HBK3:=Lib.hid (HBK.out.keep hb3)
 have HO3:=Lib.hid (And.intro ho3 hl3)
 obtain⟨p3,cp3,hv3⟩:=own_form ho3
 rw[hl3] at hv3
 subst hv3
 clear c0 c7 HR3 HBK HPK hmk ho3 hl3 hb3 HP2
 generalize hNB:w1.heap.size=nb at *
 generalize hMB:w2.heap.size=mb at *
 have ne1:¬w.heap.size=nb:=by omega
 have ne2:¬nb=w.heap.size:=by omega
 have HNB:=Lib.hid (And.intro hlt hlt3)
 clear hNB hMB hlt hlt3
 generalize hWN:w.heap.size=nw at *
 have HWN:=Lib.hid hWN
 clear hWN
 have c0:w3.cell? ⟨nw,0,none⟩=some (.int .i64 xk):=by rw[HR4.out.cell,HN.out];rfl
 have c1:w3.cell? ⟨nw,1,none⟩=some (.int .i64 xm):=by rw[HR4.out.cell,HN.out];rfl
 have c2:w3.cell? ⟨nw,2,none⟩=some (.int .i64 xu):=by rw[HR4.out.cell,HN.out];rfl
 have c3:w3.cell? ⟨nw,3,none⟩=some (.int .i64 xg):=by rw[HR4.out.cell,HN.out];rfl
 obtain⟨xz0,z0⟩:∃x,w3.cell? ⟨nb,0,none⟩=some (Value.int .u8 x):=⟨_,HBK3.out.cell (i:=0) (by decide)⟩
 obtain⟨xz1,z1⟩:∃x,w3.cell? ⟨nb,1,none⟩=some (Value.int .u8 x):=⟨_,HBK3.out.cell (i:=1) (by decide)⟩
 obtain⟨xz2,z2⟩:∃x,w3.cell? ⟨nb,2,none⟩=some (Value.int .u8 x):=⟨_,HBK3.out.cell (i:=2) (by decide)⟩
 obtain⟨xz3,z3⟩:∃x,w3.cell? ⟨nb,3,none⟩=some (Value.int .u8 x):=⟨_,HBK3.out.cell (i:=3) (by decide)⟩
 obtain⟨xz4,z4⟩:∃x,w3.cell? ⟨nb,4,none⟩=some (Value.int .u8 x):=⟨_,HBK3.out.cell (i:=4) (by decide)⟩
 have fz:∀j,w3.frozen? ⟨nb,j,none⟩=false:=fun j=>by have hb2:=HBK3.out;unfold BK at hb2;simp[World.frozen?,hb2]
 have f0:=fz 0
 have f1:=fz 1
 have f2:=fz 2
 have f3:=fz 3
 have f4:=fz 4
 clear fz
 have HCL:=Lib.hid (And.intro HN (And.intro HB3 (And.intro HR4 (And.intro HBK3 (And.intro HO3 (And.intro HNB (And.intro HWN HPS)))))))
 clear HN HB1 HB2 HB3 HR4 HBK3 HO3 HPS HNB HWN
 go_region_held3 (fun wx=>wx.cell? ⟨nw,0,none⟩=some (.int .i64 xk)∧wx.cell? ⟨nw,1,none⟩=some (.int .i64 xm)∧wx.cell? ⟨nw,2,none⟩=some (.int .i64 xu)∧wx.cell? ⟨nw,3,none⟩=some (.int .i64 xg)) (go_keep) (fail)
 obtain⟨HN,HB3,HR4,HBK3,HO3,HNB,HWN,HPS⟩:=HCL.out
 clear HCL
 obtain⟨b4,hb4⟩:∃l:List Int,l=(((((zeros 32).set 0 (IntKind.u8.wrap xk)).set 1 (IntKind.u8.wrap xm)).set 2 (IntKind.u8.wrap (xm / 256))).set 3 (IntKind.u8.wrap xu)).set 4 (IntKind.u8.wrap xg):=⟨_,rfl⟩
 have hbl4:b4.length=32:=by rw[hb4];simp only[List.length_set];exact zeros_len 32
 have e5:((((w3.setCell ⟨nb,0,none⟩ (.int .u8 (IntKind.u8.wrap xk))).setCell ⟨nb,1,none⟩ (.int .u8 (IntKind.u8.wrap xm))).setCell ⟨nb,2,none⟩ (.int .u8 (IntKind.u8.wrap (xm / 256)))).setCell ⟨nb,3,none⟩ (.int .u8 (IntKind.u8.wrap xu))).setCell ⟨nb,4,none⟩ (.int .u8 (IntKind.u8.wrap xg))=w3.setRow nb (b4.map u8V).toArray:=by
  rw[hb4,HBK3.out.setCell,(HBK3.out.setRow _).setCell,setRow_setRow,(HBK3.out.setRow _).setCell,setRow_setRow,(HBK3.out.setRow _).setCell,setRow_setRow,(HBK3.out.setRow _).setCell,setRow_setRow]
 rw[e5]
 have HB4E:=Lib.hid hb4
 clear e5 hb4
 have u4:Upd (fun k=>k=nb) w3 (w3.setRow nb (b4.map u8V).toArray).drew:=(Upd.setRow (S:=fun k=>k=nb) _ _ rfl).trans (Upd.drew _)
 have HBK4:Hid (BK (w3.setRow nb (b4.map u8V).toArray).drew nb b4):=Lib.hid (HBK3.out.setRow b4)
 have HB4:=Lib.hid (HB3.out.trans (u4.toBelow (by rw[← HWN.out];exact HB3.out.size) (fun k hk e=>by have:=HNB.out.1;omega)))
 have HR5:=Lib.hid (HR4.out.upd u4 ne1)
 have HO4:Hid (OB mb (w3.setRow nb (b4.map u8V).toArray).drew (.slice p3 16 cp3) l3∧l3.length=16):=Lib.hid (And.intro (u4.owns HO3.out.1 (fun k e q=>by have:=(HO3.out.1.lt k e).1;have:=HNB.out.2;omega)) HO3.out.2)
 clear u4 c0 c1 c2 c3 z0 z1 z2 z3 z4 f0 f1 f2 f3 f4 HBK3 HB3 HR4 HO3
 generalize (w3.setRow nb (b4.map u8V).toArray).drew=w4 at *
 have c0:w4.cell? ⟨nw,4,none⟩=some (.int .i64 xs):=by rw[HR5.out.cell,HN.out];rfl
 have c1:w4.cell? ⟨nw,5,none⟩=some (.int .i64 xl):=by rw[HR5.out.cell,HN.out];rfl
 have c2:w4.cell? ⟨nw,6,none⟩=some (.int .i64 xup):=by rw[HR5.out.cell,HN.out];rfl
 obtain⟨xz0,z0⟩:∃x,w4.cell? ⟨nb,5,none⟩=some (Value.int .u8 x):=⟨_,HBK4.out.cell (i:=5) (by omega)⟩
 obtain⟨xz1,z1⟩:∃x,w4.cell? ⟨nb,6,none⟩=some (Value.int .u8 x):=⟨_,HBK4.out.cell (i:=6) (by omega)⟩
 obtain⟨xz2,z2⟩:∃x,w4.cell? ⟨nb,7,none⟩=some (Value.int .u8 x):=⟨_,HBK4.out.cell (i:=7) (by omega)⟩
 obtain⟨xz3,z3⟩:∃x,w4.cell? ⟨nb,8,none⟩=some (Value.int .u8 x):=⟨_,HBK4.out.cell (i:=8) (by omega)⟩
 have fz:∀j,w4.frozen? ⟨nb,j,none⟩=false:=fun j=>by have hb2:=HBK4.out;unfold BK at hb2;simp[World.frozen?,hb2]
 have f0:=fz 5
 have f1:=fz 6
 have f2:=fz 7
 have f3:=fz 8
 clear fz
 go_upto_region 11 with fail
 have HCL:=Lib.hid (And.intro HN (And.intro HB4 (And.intro HR5 (And.intro HBK4 (And.intro HO4 (And.intro HNB (And.intro HWN hbl4)))))))
 clear HN HB4 HR5 HO4 HPS HNB HWN hbl4 HBK4
 go_region_held3 (fun wx=>wx.cell? ⟨nw,4,none⟩=some (.int .i64 xs)∧wx.cell? ⟨nw,5,none⟩=some (.int .i64 xl)∧wx.cell? ⟨nw,6,none⟩=some (.int .i64 xup)) (go_keep) (fail)
 obtain⟨HN,HB4,HR5,HBK4,HO4,HNB,HWN,hbl4⟩:=HCL.out
 clear HCL
 obtain⟨b6,hb6⟩:∃l:List Int,l=(((b4.set 5 (IntKind.u8.wrap xs)).set 6 (IntKind.u8.wrap (xs / 256))).set 7 (IntKind.u8.wrap xl)).set 8 (IntKind.u8.wrap xup):=⟨_,rfl⟩
 have hbl6:b6.length=32:=by rw[hb6];simp only[List.length_set];exact hbl4
 have e6:(((w4.setCell ⟨nb,5,none⟩ (.int .u8 (IntKind.u8.wrap xs))).setCell ⟨nb,6,none⟩ (.int .u8 (IntKind.u8.wrap (xs / 256)))).setCell ⟨nb,7,none⟩ (.int .u8 (IntKind.u8.wrap xl))).setCell ⟨nb,8,none⟩ (.int .u8 (IntKind.u8.wrap xup))=w4.setRow nb (b6.map u8V).toArray:=by
  rw[hb6,HBK4.out.setCell,(HBK4.out.setRow _).setCell,setRow_setRow,(HBK4.out.setRow _).setCell,setRow_setRow,(HBK4.out.setRow _).setCell,setRow_setRow]
 rw[e6]
 clear e6
 have u6:Upd (fun k=>k=nb) w4 (w4.setRow nb (b6.map u8V).toArray).drew:=(Upd.setRow (S:=fun k=>k=nb) _ _ rfl).trans (Upd.drew _)
 have HBK6:Hid (BK (w4.setRow nb (b6.map u8V).toArray).drew nb b6):=Lib.hid (HBK4.out.setRow b6)
 have HB6:=Lib.hid (HB4.out.trans (u6.toBelow (by rw[← HWN.out];exact HB4.out.size) (fun k hk e=>by have:=HNB.out.1;omega)))
 have hA6:=u6.owns HO4.out.1 (fun k e q=>by have:=(HO4.out.1.lt k e).1;have:=HNB.out.2;omega)
 clear u6 HBK4 HB4 HR5
 generalize (w4.setRow nb (b6.map u8V).toArray).drew=w6 at *
 have hat:At (Value.int .u8) 0 w6 (.slice p3 16 cp3) l3:=by have:=OB.at hA6;exact this
 have HAT:=Lib.hid hat
 rw[HO4.out.2] at hA6
 obtain⟨b3,o3,e3,hc3⟩:=own_cells hA6 HO4.out.2 (by decide)
 subst e3
 obtain⟨w7,hcp,hbk7,hu7⟩:=copy9 HBK6.out hbl6 HAT.out HO4.out.2
 have HF:=Lib.hid (And.intro hbk7 hu7)
 have HBL:=Lib.hid (And.intro hbl4 (And.intro hbl6 hb6))
 clear hbk7 hu7 hbl4 hbl6 hb6 hA6 hc3 hat c0 c1 c2 z0 z1 z2 z3 f0 f1 f2 f3
 go_wp2_with fail
 go_ret2
 refine⟨nb,_,rfl,by have:=HNB.out.1;rw[HWN.out];omega,HF.out.1,?_,by have hz:=HWN.out;have q:=HF.out.2.toBelow (B:=nw) (by rw[← hz];exact HB6.out.size) (fun k hk e=>by have:=HNB.out.1;omega);have r:=HB6.out.trans q;rw[← hz] at r;exact r,by unfold ndL ndH;rw[HBL.out.2.2,HB4E.out,HPK3.out]⟩
 have h6:=HBL.out.2.1
 have h3:=HO4.out.2
 simp only[splice,List.length_append,List.length_take,List.length_drop,h6,h3]
 decide
end Go.Proofs.YtfkepfncgdlgoaaGreatDoor
