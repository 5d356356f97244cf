/- A kernel that has begun, as one state. Printed by gen_kerx2.py. Calls and their rows; a task that is awake and has no signal. The first task of a kernel that has begun: who it is. The walks of path.Split at "/f" and at "/". What fs.Write puts into a file's sectors; a block of 64 bytes of one's own, byte by byte; the walk of FS.file. fs.Write: what holds from block to block. No walk here. -/
import Derived.Test.YtfkepfncgdlgoaaGreatDoorFsA
import Derived.Test.YtfkepfncgdlgoaaGreatDoorKfA
import Derived.Test.YtfkepfncgdlgoaaGreatDoorPathA
import Derived.Test.YtfkepfncgdlgoaaGreatDoorDOk
namespace Go.Proofs.YtfkepfncgdlgoaaGreatDoor
open Go.RowKit
open Go.RowKit Go.Maps
set_option linter.unusedVariables false
set_option linter.unusedSimpArgs false
set_option maxRecDepth 100000
set_option maxHeartbeats 800000
theorem KS.toKT2 {w:World} {B K P Wh Fi Pr R M so sp:Nat} {c:Nat→Value}(h:KS w B K P Wh Fi Pr R M so sp c):∃tag T cc wb,KT w ⟨K,Wh,Fi,Pr,R,M,so⟩ (sS0 c tag T cc sp wb)∧c 63=.slice (some ⟨wb,0,none⟩) 1 1∧∀j,tag j≠0→B≤j∧(j≤M∨sp≤j):=by
 obtain⟨T,cc,hru,hspT⟩:=h.ru
 obtain⟨wb,hc63,hwb,hspw⟩:=h.wd
 obtain⟨T',C,e,hT⟩:=hru.rows (by decide)
 injection e with e
 injection e with e
 subst e
 have hTw:T≠wb:=fun e=>by
  have r1:=hT.row
  have r2:=hwb
  rw[e] at r1
  have r3:some (Obj.cells C 186)=some (Obj.cells #[.int .i64 1] 3):=r1.symm.trans r2
  injection r3 with r3
  injection r3 with _ r4
  exact absurd r4 (by decide)
 have b:=h.kp.b
 have o:=h.or
 refine⟨fun j=>if j=K then 1 else if j=Wh then 2 else if j=Fi then 3 else if j=Pr then 4 else if j=R∨j=T then 5 else if j=M∨j=so∨j=sp then 6 else if j=wb then 7 else 0,T,cc,wb,⟨h.kr,h.c1,h.c4,h.c5,h.c6,h.c7,h.kp.wh,h.kp.fi,h.kp.pr,hru,mem0 h.mm h.om h.im o.2.2.1 o.2.2.2,fun p q hq=>?_,?_,?_,?_,?_,fun j hj=>?_,fun j hj=>?_,fun j hj=>?_⟩,hc63,fun j hj=>⟨?_,?_⟩⟩
 ·simp only[sS0] at hq
  split at hq
  ·rename_i hp
   injection hq with hq
   subst hp
   subst hq
   refine⟨⟨1,hc63⟩,by rw[hwb.cell];rfl,hwb.lt,?_⟩
   simp only[sS0]
   rw[if_neg (by omega),if_neg (by omega),if_neg (by omega),if_neg (by omega),if_neg (by omega),if_neg (by omega),if_pos trivial]
  ·cases hq
 ·simp only[sS0];rw[if_pos trivial]
 ·simp only[sS0];rw[if_neg (by omega),if_pos trivial]
 ·simp only[sS0];rw[if_neg (by omega),if_neg (by omega),if_pos trivial]
 ·simp only[sS0];rw[if_neg (by omega),if_neg (by omega),if_neg (by omega),if_pos trivial]
 ·have hj:j=R∨j=T:=by
   rcases hj with q|⟨a,q,q2⟩
   ·exact .inl q
   ·simp only[sS0] at q
    injection q with q
    subst q
    exact .inr q2
  simp only[sS0]
  rw[if_neg (by omega),if_neg (by omega),if_neg (by omega),if_neg (by omega),if_pos hj]
 ·have hj:j=M∨j=so∨j=sp:=by
   rcases hj with q|q|q|⟨x,q⟩|q
   ·exact .inl q
   ·exact .inr (.inl q)
   ·cases q
   ·simp only[sS0,mS0] at q
    split at q
    ·injection q with q;exact .inr (.inr q.symm)
    ·cases q
   ·cases q
  have n:¬(j=R∨j=T):=by omega
  simp only[sS0]
  rw[if_neg (by omega),if_neg (by omega),if_neg (by omega),if_neg (by omega),if_neg n,if_pos hj]
 ·have l1:=h.kr.lt
  have l2:=hru.lt
  have l3:=hT.row.lt
  have l4:=h.mm.choose_spec.lt
  have l5:=hwb.lt
  obtain⟨D,⟨es,ck,hb,_⟩,_⟩:=h.im
  have l6:=(Array.getElem?_eq_some_iff.1 hb).1
  simp only[sS0]
  rw[if_neg (by omega),if_neg (by omega),if_neg (by omega),if_neg (by omega),if_neg (by omega),if_neg (by omega),if_neg (by omega)]
 ·rcases Nat.lt_or_ge j B with q|q
  ·exfalso
   apply hj
   simp only
   rw[if_neg (by omega),if_neg (by omega),if_neg (by omega),if_neg (by omega),if_neg (by omega),if_neg (by omega),if_neg (by omega)]
  ·exact q
 ·by_cases q:j≤M∨sp≤j
  ·exact q
  ·exfalso
   apply hj
   simp only
   rw[if_neg (by omega),if_neg (by omega),if_neg (by omega),if_neg (by omega),if_neg (by omega),if_neg (by omega),if_neg (by omega)]
def callA (n a b c:Int):Array Value:=#[.int .i64 n,.int .i64 a,.int .i64 b,.int .i64 c,.string ByteArray.empty,.string ByteArray.empty,.slice none 0 0]
def bdC (ps:Array (Nat×Value)):Sem Value:=Instr.build 38 ps
theorem bd_call (ps:Array (Nat×Value)):Instr.build 38 ps=bdC ps:=rfl
theorem bdc_0 (w:World) (n:Int):(bdC #[(0,.int .i64 n)]).run Tryz.prog w=.ok (.agg (callA n 0 0 0)) w:=by kernel_rfl
theorem ans_new (w:World) (e a b:Int):(stR 35 (.pointer (some ⟨w.heap.size,0,none⟩)) (.agg (ansV e a b (.slice none 0 0)))).run Tryz.prog (w.alloc (.cells #[.int .i64 0,.int .i64 0,.int .i64 0,.slice none 0 0,.slice none 0 0,.int .i64 0,.int .i64 0,.int .i64 0,.int .i64 0,.int .i64 0,.int .i64 0] 35))=.ok () (w.alloc (.cells (ansV e a b (.slice none 0 0)) 35)):=st0_new w rfl (by kernel_rfl) (ansV_one _ _ _ rfl)
theorem start1:(ProcLaw.start 1).st=1:=by decide
def Calm (c:Nat→Value) (p:Nat):Prop:=c (8+p*38+37)=.bool false∧∀j,j<18→c (8+p*38+19+j)=.int .i64 0
theorem Calm.awake {s:KSt} {p:Nat}(h:Calm s.c p)(h1:1≤p)(h2:p≤16)(hl:(s.t p).st=1):Awake s p:=⟨h1,h2,hl,h.1,h.2⟩
theorem kz_sigs (j:Nat)(hj:j<18):kz (65+j)=.int .i64 0:=by
 have h:=congrArg (fun l=>l[j]?) kz_sig
 simp only[List.getElem?_map,List.getElem?_replicate,if_pos hj,List.getElem?_range hj,Option.map_some] at h
 injection h
section
variable {w:World} {B K P Wh Fi Pr R M so sp:Nat} {c:Nat→Value}
theorem KS.calm (h:KS w B K P Wh Fi Pr R M so sp c):Calm c 1:=⟨h.sl,fun j hj=>(h.sg j hj).trans (kz_sigs j hj)⟩
end
section
variable {w:World} {B K P Wh Fi Pr R M so sp Tb cc wb:Nat} {c:Nat→Value} {tag:Nat→Nat}
theorem who1 (hs:KS w B K P Wh Fi Pr R M so sp c)(h63:c 63=.slice (some ⟨wb,0,none⟩) 1 1)(hg:w.cell? ⟨wb,0,none⟩=some (.int .i64 1)):Who w (sS0 c tag Tb cc sp wb) 1 0 127 none 0 wb 1:=by
 obtain⟨h0,h1,h2,h3,h4,h5,h6⟩:=hs.tk
 refine⟨by decide,fun i hi=>?_,h63,?_,hg,Nat.zero_le _,by decide,by decide,by decide,by decide⟩
 ·have:i=0∨i=1∨i=2∨i=3∨i=4∨i=5:=by omega
  rcases this with rfl|rfl|rfl|rfl|rfl|rfl
  ·exact congrArg some h1.symm
  ·exact congrArg some h2.symm
  ·exact congrArg some h3.symm
  ·exact congrArg some h4.symm
  ·exact congrArg some h5.symm
  ·exact congrArg some h6.symm
 ·show c 64=_
  rw[hs.ck 64 (by decide) (by decide) (.inr (by decide))]
  unfold kz
  kernel_rfl
end
def secW (z:List Int) (k:Nat):List Int:=(List.range 64).map fun j=>z.getD (64*k+j) 0
def secP (z:List Int) (k i:Nat):List Int:=(List.range 64).map fun j=>if j<i then z.getD (64*k+j) 0 else 0
theorem secW_len (z:List Int) (k:Nat):(secW z k).length=64:=by simp[secW]
theorem secP_len (z:List Int) (k i:Nat):(secP z k i).length=64:=by simp[secP]
theorem secP_zero (z:List Int) (k:Nat):secP z k 0=zeros 64:=by
 apply List.ext_getElem
 ·rw[secP_len,zeros_len]
 ·intro j h1 h2
  have e:(zeros 64)[j]=0:=by unfold zeros;exact List.getElem_replicate ..
  rw[e]
  simp[secP]
theorem secP_all (z:List Int) (k:Nat):secP z k 64=secW z k:=by
 apply List.ext_getElem
 ·simp[secP,secW]
 ·intro j h1 h2
  have:j<64:=by simpa [secP] using h1
  simp[secP,secW,this]
theorem secP_next (z:List Int) (k:Nat) {i:Nat}(hi:i<64):(secP z k i).set i (z.getD (64*k+i) 0)=secP z k (i+1):=by
 apply List.ext_getElem
 ·simp[secP]
 ·intro j h1 h2
  rw[List.getElem_set]
  by_cases e:i=j
  ·subst e
   simp[secP]
  ·have e1:j<i+1↔j<i:=by omega
   simp[secP,e,e1]
theorem secP_stay (z:List Int) (k:Nat) {i:Nat}(h:z.length≤64*k+i):secP z k (i+1)=secP z k i:=by
 apply List.ext_getElem
 ·simp[secP]
 ·intro j h1 h2
  by_cases e:i=j
  ·subst e
   simp[secP,List.getElem?_eq_none h]
  ·have e1:j<i+1↔j<i:=by omega
   simp[secP,e1]
structure WB (w:World) (g cap:Nat) (l:List Int):Prop where
 r:∃C,Row w g 5 C∧C.size=cap∧∀i,i<64→C[i]?=some (u8V (l.getD i 0))
 c0:64≤cap
 c1:cap≤maxLen
 ln:l.length=64
section
variable {w w':World} {g cap B:Nat} {l:List Int}
theorem WB.of_own {v:Value}(h:OB B w v l)(hl:l.length=64):∃g cap,v=.slice (some ⟨g,0,none⟩) 64 cap∧B≤g∧g<w.heap.size∧WB w g cap l:=by
 unfold OB at h
 rw[hl] at h
 rcases h.2 with ⟨_,h0⟩|⟨g,cap,cur,rfl,hB,hg,h1,h2,h3,h4⟩
 ·omega
 ·have hr:Row w g 5 cur:=hg
  refine⟨g,cap,rfl,hB,hr.lt,⟨cur,hr,by omega,fun i hi=>?_⟩,h1,h2,hl⟩
  have e:(l.map u8V)[i]?=some (u8V (l.getD i 0)):=by rw[List.getElem?_map,List.getElem?_eq_getElem (by omega)];simp[hl,hi]
  rw[← h4,Nat.mul_one,List.getElem?_take,if_pos hi,Array.getElem?_toList] at e
  exact e
theorem WB.lt (h:WB w g cap l):g<w.heap.size:=by obtain⟨C,hr,_⟩:=h.r;exact hr.lt
theorem WB.cell (h:WB w g cap l) {i:Nat}(hi:i<64):w.cell? ⟨g,i,none⟩=some (.int .u8 (l.getD i 0)):=by
 obtain⟨C,hr,_,hc⟩:=h.r
 rw[hr.cell];exact hc i hi
theorem WB.fz (h:WB w g cap l) (i:Nat):w.frozen? ⟨g,i,none⟩=false:=by
 obtain⟨C,hr,_⟩:=h.r
 exact hr.fz i
theorem WB.set (h:WB w g cap l) {i:Nat}(hi:i<64) (x:Int):WB (w.setCell ⟨g,i,none⟩ (.int .u8 x)) g cap (l.set i x):=by
 obtain⟨C,hr,hs,hc⟩:=h.r
 have hcap:=h.c0
 refine⟨⟨C.setIfInBounds i (.int .u8 x),by rw[hr.setCell];exact hr.setRow _,by simpa using hs,fun j hj=>?_⟩,h.c0,h.c1,by rw[List.length_set];exact h.ln⟩
 rw[Array.getElem?_setIfInBounds]
 have:=h.ln
 by_cases e:i=j
 ·subst e
  rw[if_pos rfl,if_pos (by omega)]
  simp[u8V,hi,h.ln]
 ·rw[if_neg e,hc j hj]
  simp[List.getD_eq_getElem?_getD,List.getElem?_set_ne e]
theorem WB.at (h:WB w g cap l):At (Value.int .u8) 0 w (.slice (some ⟨g,0,none⟩) 64 cap) l:=
 ⟨some ⟨g,0,none⟩,cap,by rw[h.ln],by rw[h.ln];exact h.c0,h.c1,.inr ⟨g,0,rfl,h.lt,fun i hi=>by rw[Nat.zero_add];exact h.cell (by rw[← h.ln];exact hi)⟩⟩
end
section
variable {w:World} {c:FC} {x:FM}
theorem fileF_is (h:FSt w c x) {i:Nat}(hi:i<32) {n:Int}(hn:n=i+1)(hk:(x.nd i).k=1):Calls Tryz.prog 126 #[.pointer (some ⟨c.F,0,none⟩),.int .i64 n] w fun e w'=>e=.returned (.int .i64 0)∧w=w':=by
 have HT:=Lib.hid (thereF_is h hi hn)
 rw[hk] at HT
 have HT:Hid (Calls Tryz.prog 209 #[.pointer (some ⟨c.F,0,none⟩),.int .i64 n] w fun e w'=>e=.returned (.bool true)∧w=w'):=HT
 have c4:=h.c4
 have k0:=h.kind hi
 rw[hk] at k0
 have hcm:(x.cap:Int)≤9223372036854775807:=by have:=h.cp.2;unfold maxLen at this;omega
 have y1:IntKind.i64.wrap (n-1)=i:=by rw[IntWalk.i64_in _ (by omega)];omega
 have i3:(i:Int)<32:=by omega
 have i0:(0:Int)≤i:=by omega
 clear h hn hk
 go_enter Tryz.func126,Tryz.ntmps126
 go_wp2_with (go_at_call 209;(with_reducible refine HT.out.mono ?_);rintro e1 w1 ⟨rfl,rfl⟩)
 go_ret
 exact⟨rfl,rfl⟩
end
def gN (G:Nat→Nat) (q:Nat):Nat→Nat→Nat
 | 0=>G
 | k+1=>gOn (gN G q k) (q+k)
def pts (q K k:Nat):List Int:=(List.range K).map fun j=>if j<k then ((q+j:Nat):Int) else 0
theorem pts_len (q K k:Nat):(pts q K k).length=K:=by simp[pts]
theorem pts_get {q K k j:Nat}(h:j<K):(pts q K k).getD j 0=if j<k then ((q+j:Nat):Int) else 0:=by simp[pts,h]
theorem pts_set {q K k:Nat}(h:k<K):(pts q K k).set k ((q+k:Nat):Int)=pts q K (k+1):=by
 apply List.ext_getElem
 ·simp[pts]
 ·intro j h1 h2
  rw[List.getElem_set]
  by_cases e:k=j
  ·subst e;simp[pts]
  ·have e1:j<k+1↔j<k:=by omega
   simp[pts,e,e1]
theorem pts_zero (q K:Nat):pts q K 0=List.replicate K 0:=by
 apply List.ext_getElem
 ·simp[pts]
 ·intro j h1 h2
  simp[pts]
theorem rep_next (j:Nat):List.replicate j (0:Int)++[0]=List.replicate (j+1) 0:=by rw[List.replicate_succ']
theorem pts_in {q K k:Nat}(h:q+K≤256):∀p∈pts q K k,0≤p∧p<256:=by
 intro p hp
 simp only[pts,List.mem_map,List.mem_range] at hp
 obtain⟨j,hj,rfl⟩:=hp
 split <;> omega
theorem owns_cap {w:World} {B e n c:Nat} {p:Option Addr} {l:List Value} {s:Nat}(h:w.ownsRow B e s (.slice p n c) n l):c≤maxLen:=by
 rcases h.2 with ⟨e,_⟩|⟨g,cap,cur,e,_,_,_,h2,_⟩
 ·injection e with _ _ e;rw[e];exact Nat.zero_le _
 ·injection e with _ _ e;rw[e];exact h2
theorem TX.fresh {w0 wa wx w':World} {c:FC} {x:FM} {t:Nat} {Y:TM}(h:TX w0 wa c x t Y)(hx:TX w0 wx c x t Y) {j:Nat}(hj:wa.heap.size≤j)(hu:Upd (fun k=>k=j) wx w'):TX w0 w' c x t Y:=hx.far hu (fun k ek=>by
  subst ek
  refine⟨Nat.le_trans h.bl.size hj,fun e=>?_,fun i hi e=>?_,fun p s e=>?_⟩
  · have:=(h.mlt e).2;omega
  · have:=(h.ps i hi).lt k e;omega
  · have:=h.ltP e;omega)
theorem Upd.ofBelow {w w':World} {B:Nat}(h:Below B w w'):Upd (fun j=>B≤j) w w':=⟨h.os,h.tape,h.output,h.size,fun i _ hn=>h.block i (Nat.lt_of_not_le hn)⟩
theorem TX.fresh2 {w0 wa wx w':World} {c:FC} {x:FM} {t:Nat} {Y:TM}(h:TX w0 wa c x t Y)(hx:TX w0 wx c x t Y)(hu:Upd (fun k=>wa.heap.size≤k) wx w'):TX w0 w' c x t Y:=hx.far hu (fun k hj=>by
  refine⟨Nat.le_trans h.bl.size hj,fun e=>?_,fun i hi e=>?_,fun p s e=>?_⟩
  · have:=(h.mlt e).2;omega
  · have:=(h.ps i hi).lt k e;omega
  · have:=h.ltP e;omega)
structure WLoop (y:TM) (q k:Nat) (z:List Int) (nbk:Nat) (Y:TM):Prop where
 G:Y.G=gN y.G q k
 nd:Y.nd=y.nd
 dy:Y.dy=y.dy
 nb:Y.nb=y.nb
 np:Y.np=y.np+k
 gv:Y.gv=y.gv
 mt:∀t,tMut t Y=tMut t y
 p1:∀j,j<k→(Y.pt ((q+j:Nat):Int)).isSome∧Y.pby ((q+j:Nat):Int)=secW z j
 p0:∀p,(∀j,j<k→p≠((q+j:Nat):Int))→Y.pt p=y.pt p
 pn:∀p s,Y.pt p=some s→s.1≠nbk
theorem WLoop.zero {y:TM} {q:Nat} {z:List Int} {nbk:Nat}(h:∀p s,y.pt p=some s→s.1≠nbk):WLoop y q 0 z nbk y:=⟨rfl,rfl,rfl,rfl,rfl,rfl,fun _=>rfl,fun j hj=>by omega,fun _ _=>rfl,h⟩
theorem WLoop.step {y Y:TM} {q k:Nat} {z:List Int} {nbk:Nat}(h:WLoop y q k z nbk Y) {s:SL}(hs:s.1≠nbk) :
  WLoop y q (k+1) z nbk { Y with G:=gOn Y.G (q+k),pt:=fun j=>if j=((q+k:Nat):Int) then some s else Y.pt j,np:=Y.np+1,pby:=fun j=>if j=((q+k:Nat):Int) then secW z k else Y.pby j }:=by
 refine⟨by show gOn Y.G (q+k)=gOn (gN y.G q k) (q+k);rw[h.G],h.nd,h.dy,h.nb,by show Y.np+1=_;rw[h.np];omega,h.gv,h.mt,fun j hj=>?_,fun p hp=>?_,fun p s' e=>?_⟩
 ·show (if ((q+j:Nat):Int)=((q+k:Nat):Int) then some s else Y.pt ((q+j:Nat):Int)).isSome∧(if ((q+j:Nat):Int)=((q+k:Nat):Int) then secW z k else Y.pby ((q+j:Nat):Int))=secW z j
  by_cases e:j=k
  ·subst e;simp
  ·rw[if_neg (by omega),if_neg (by omega)]
   exact h.p1 j (by omega)
 ·show (if p=((q+k:Nat):Int) then some s else Y.pt p)=y.pt p
  rw[if_neg (hp k (by omega))]
  exact h.p0 p (fun j hj=>hp j (by omega))
 ·have e:(if p=((q+k:Nat):Int) then some s else Y.pt p)=some s':=e
  split at e
  ·injection e with e;rw[← e];exact hs
  ·exact h.pn p s' e
structure FileY (x:FM) (q:Nat) (K:Nat):Prop where
 n0:NdOk (x.nd 0)
 nz:∀i,2≤i→i<32→x.nd i=nd0
 G:∀k,k<16→37≤x.G k∧x.G k<256∧hasB (hasT x.G) (x.G k)=true
 free:Free x.G q K
 na:x.na≤16
 dk:DOk x
 q5:53≤q∧q+K≤59
theorem Free.gN {G:Nat→Nat} {q K:Nat}(h:Free G q K):∀j,j≤K→Free (gN G q j) (q+j) (K-j)
 | 0,_=>h
 | j+1,hj=>by
  have ih:=h.gN j (by omega)
  have e:K-j=K-(j+1)+1:=by omega
  rw[e] at ih
  exact ih.on
theorem gN_off {G:Nat→Nat} (q:Nat) {i:Nat}(hi:i<16):∀j,gN G q j i=G i
 | 0=>rfl
 | j+1=>by
  show gOn (gN G q j) (q+j) i=_
  rw[gOn_off _ (by omega),gN_off q hi j]
theorem Free.ne {G:Nat→Nat} {q K n:Nat}(h:Free G q K)(hn:hasB (hasT G) n=true):∀j,j<K→n≠q+j:=fun j hj e=>by
 rw[e,h.no j hj] at hn;cases hn
structure WroteF (w w':World) (c:FC) (x:FM) (q K:Nat) (z:List Int) (x':FM):Prop where
 st:FSt w' c x'
 n0:x'.nd 0=x.nd 0
 n1:∃pv,x'.nd 1={ x.nd 1 with sz:=z.length,pv:=pv,ps:=pts q K K }
 nz:∀i,2≤i→x'.nd i=x.nd i
 G:x'.G=gN x.G q K
 sec:∀j,j<K→fsec x' (q+j)=secW z j
 old:∀p,5≤p→(∀j,j<K→p≠q+j)→(∀i,i<16→p≠x.G i)→fsec x' p=fsec x p
 na:x'.na≤x.na+K+5
 held:x'.held=x.held∧x'.nh=x.nh
 a:x'.a=x.a
 bs:∀j,x'.bs j→x.bs j∨w.heap.size≤j
 up:Upd (fun j=>j=c.F∨j=x.a) w w'
 dk:DOk x'
 sd:SameD x x'
 t37:(x'.td 37).isSome=true
theorem wend_is {w4 w8 w:World} {c:FC} {x:FM} {t:Nat} {y Y:TM} {q K nbk:Nat} {z:List Int} {v8:Value} {n:Nd}(hT:TX w4 w8 c x t { Y with nd:=ups1 Y.nd 1 n,dy:=fun j=>if j=2 then some () else Y.dy j,nb:=Y.nb+1 })(h:WLoop y q K z nbk Y)(hnd:y.nd=x.nd)(hG:y.G=x.G)(hdy:∀j,y.dy j=none)(hgv:y.gv=.slice none 0 0)(hnp:y.np=0)(hpt:∀j,y.pt j=none)
  (hn:n={ x.nd 1 with sz:=z.length,pv:=v8,ps:=pts q K K }) (hok:NdOk n) (hx:FileY x q K) (hK:K≤4) (hw:Below w.heap.size w w4) :
  Calls Tryz.prog 55 #[.pointer (some ⟨t,0,none⟩)] w8 fun e w'=>e=.returned (.int .i64 0)∧∃x',WroteF w w' c x q K z x':=by
 obtain⟨Z,hZ⟩:∃Z:TM,Z={ Y with nd:=ups1 Y.nd 1 n,dy:=fun j=>if j=2 then some () else Y.dy j,nb:=Y.nb+1 }:=⟨_,rfl⟩
 rw[← hZ] at hT
 have z1:Z.nd=ups1 x.nd 1 n:=by rw[hZ];show ups1 Y.nd 1 n=_;rw[h.nd,hnd]
 have z2:Z.G=gN x.G q K:=by rw[hZ];show Y.G=_;rw[h.G,hG]
 have z3:∀j,j≠2→Z.dy j=none:=fun j hj=>by rw[hZ];show (if j=2 then some () else Y.dy j)=none;rw[if_neg hj,h.dy,hdy]
 have z4:Z.gv=.slice none 0 0:=by rw[hZ];exact h.gv.trans hgv
 have z5:Z.np=K:=by rw[hZ];show Y.np=K;rw[h.np,hnp];omega
 have z6:Z.pt=Y.pt:=by rw[hZ]
 have z7:Z.pby=Y.pby:=by rw[hZ]
 have hfr:=hx.free
 have hq1:=hfr.lo
 have hq2:=hfr.hi
 have hc1:cntD Z 16≤1:=cntD_one Z (fun k hk=>by
    unfold dirt
    rw[z3 _ (by omega),z3 _ (by omega)]
    rfl) 16
 have hGo:∀k,k<16→Z.G k=x.G k:=fun k hk=>by rw[z2];exact gN_off q hk K
 have hnd2:∀i,i<32→NdOk (Z.nd i)∨Z.nd i=nd0:=fun i hi=>by
  rw[z1]
  rcases i with _|_|i
  ·left;rw[ups1_off _ _ (by decide)];exact hx.n0
  ·left;rw[ups1_same];exact hok
  ·right;rw[ups1_off _ _ (by omega)];exact hx.nz _ (by omega) hi
 have hp0:∀p,(∀j,j<K→p≠((q+j:Nat):Int))→Z.pt p=none:=fun p hp=>by rw[z6,h.p0 p hp,hpt]
 refine(end_is hT hnd2 (fun k hk=>by have:=hx.G k hk;rw[hGo k hk];omega) (hx.dk.gi hGo) z4 (by have:=hx.na;omega) (fun j h1 h4=>hp0 j (fun i _=>by omega))).mono ?_
 rintro e w' ⟨rfl,⟨P,m,B,hm,hoff,hF,hE⟩,hU⟩
 refine⟨rfl,_,hF,?_,⟨v8,?_⟩,fun i hi=>?_,z2,fun j hj=>?_,fun p h5 hpq hpG=>?_,?_,⟨rfl,rfl⟩,rfl,fun j hj=>?_,(Upd.below hw).trans hU,hx.dk.ended hE hoff hGo (fun i hi hd=>?_) (fun i hi=>?_) ?_ (fun p s e=>?_),⟨rfl,rfl,rfl,rfl,rfl,rfl⟩,?_⟩
 ·show Z.nd 0=_;rw[z1,ups1_off _ _ (by decide)]
 ·show Z.nd 1=_;rw[z1,ups1_same,hn]
 ·show Z.nd i=_;rw[z1,ups1_off _ _ (by omega)]
 ·rw[keptM_sec]
  unfold tsec
  obtain⟨e1,e2⟩:=hoff ((q+j:Nat):Int) (fun i hi _ e=>hfr.ne (hx.G i hi).2.2 j hj (by rw[hGo i hi] at e;omega)) (by omega)
  obtain⟨p1,p2⟩:=h.p1 j hj
  show (if (P ((q+j:Nat):Int)).isSome=true then B ((q+j:Nat):Int) else _)=_
  rw[e1,z6,if_pos p1,e2,z7,p2]
 ·rw[keptM_sec]
  unfold tsec
  obtain⟨e1,-⟩:=hoff (p:Int) (fun i hi _ e=>hpG i hi (by rw[hGo i hi] at e;omega)) (by omega)
  show (if (P (p:Int)).isSome=true then B (p:Int) else _)=_
  rw[e1,hp0 p (fun j hj=>by have:=hpq j hj;omega)]
  rfl
 ·show x.na+m≤x.na+K+5
  omega
 ·rcases hj with hj|hj
  ·exact .inl hj
  ·exact .inr (Nat.le_trans hw.size hj.1)
 ·rcases i with _|i
  ·rfl
  ·unfold dirt at hd
   rw[z3 _ (by omega),z3 _ (by omega)] at hd
   cases hd
 ·rw[z1,ups1_off _ _ (by omega)]
 ·unfold dirt
  rw[Bool.or_eq_true]
  right
  rw[hZ]
  rfl
 ·have hq5:=hx.q5
  rcases Nat.lt_or_ge 0 0 with h9|_
  ·omega
  ·by_cases hp:∃j,j<K∧p=((q+j:Nat):Int)
   ·obtain⟨j,hj,rfl⟩:=hp
    omega
   ·rw[hp0 p (fun j hj e=>hp ⟨j,hj,e⟩)] at e
    cases e
 ·have hd0:dirt Z 0=true:=by
   unfold dirt
   rw[Bool.or_eq_true]
   right
   rw[hZ]
   rfl
  have h9:=(hE.nd 0 (by decide) hd0).1
  rw[hGo 0 (by decide),hx.dk.gk 0 (by decide)] at h9
  have h9:(P 37).isSome=true:=h9
  show (if (P 37).isSome=true then P 37 else x.td 37).isSome=true
  rw[if_pos h9]
  exact h9
end Go.Proofs.YtfkepfncgdlgoaaGreatDoor
