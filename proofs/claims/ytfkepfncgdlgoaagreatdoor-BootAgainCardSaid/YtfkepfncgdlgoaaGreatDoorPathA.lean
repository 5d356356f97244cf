/- The walks of package fs: Make of the file "f" in an empty root. The walks of package cred and mode for a cred without further groups. The walks of mode.May and cred.Become for a cred without further groups. The walks of package path: Split at "f". -/
import Derived.Test.YtfkepfncgdlgoaaGreatDoorDOk
namespace Go.Proofs.YtfkepfncgdlgoaaGreatDoor
open Go.RowKit Go.Maps
set_option linter.unusedVariables false
set_option linter.unusedSimpArgs false
set_option maxRecDepth 100000
set_option maxHeartbeats 2000000
theorem cntD_one (y:TM)(h:∀k,1≤k→dirt y k=false):∀k,cntD y k≤1
 | 0=>by simp[cntD]
 | k+1=>by
  have ih:=cntD_one y h k
  rw[cntD_next]
  rcases k with _|k
  ·simp[cntD];split <;> omega
  ·rw[h (k+1) (by omega)]
   simpa using ih
theorem hasB_bit (h:Nat→Nat) (n:Nat):hasB h n=(h (n / 8)).testBit (n % 8):=by
 rw[Nat.testBit_eq_decide_div_mod_eq]
 rfl
theorem hasB_on (h:Nat→Nat) (n m:Nat):hasB (bitOn h n) m=(hasB h m || decide (m=n)):=by
 rw[hasB_bit,hasB_bit]
 unfold bitOn up
 by_cases e:m / 8=n / 8
 ·rw[if_pos e,Nat.testBit_or,Nat.testBit_two_pow,e]
  congr 1
  rw[decide_eq_decide]
  omega
 ·rw[if_neg e]
  have:¬m=n:=fun q=>e (by rw[q])
  simp[this]
theorem hasB_gOn (G:Nat→Nat) (n:Nat) {m:Nat}(hm:m<256):hasB (hasT (gOn G n)) m=(hasB (hasT G) m || decide (m=n)):=by
 rw[← hasB_on]
 rw[hasB_bit,hasB_bit]
 congr 1
 show gOn G n (16+m / 8)=_
 unfold gOn ups
 rw[if_pos (by omega)]
 congr 1
 omega
structure Free (G:Nat→Nat) (q K:Nat):Prop where
 lo:37≤q
 hi:q+K≤256
 no:∀j,j<K→hasB (hasT G) (q+j)=false
 al:∀i,37≤i→i<q→hasB (hasT G) i=true
theorem Free.fst {G:Nat→Nat} {q K:Nat}(h:Free G q K)(h0:0<K):Fst G q:=⟨h.lo,by have:=h.hi;omega,h.no 0 h0,h.al⟩
theorem Free.on {G:Nat→Nat} {q K:Nat}(h:Free G q (K+1)):Free (gOn G q) (q+1) K:=by
 have h1:=h.lo
 have h2:=h.hi
 refine⟨by omega,by omega,fun j hj=>?_,fun i h3 h4=>?_⟩
 ·rw[hasB_gOn _ _ (by omega),show q+1+j=q+(j+1) by omega,h.no (j+1) (by omega)]
  simp
 ·rw[hasB_gOn _ _ (by omega)]
  by_cases e:i=q
  ·simp[e]
  ·rw[h.al i h3 (by omega)];rfl
structure SameD (x x':FM):Prop where
 s:x'.s=x.s
 f:x'.f=x.f
 wv:x'.wv=x.wv
 wm:x'.wm=x.wm
 wx:x'.wx=x.wx
 sq:x'.sq=x.sq
theorem SameD.refl (x:FM):SameD x x:=⟨rfl,rfl,rfl,rfl,rfl,rfl⟩
theorem SameD.trans {x y z:FM}(h:SameD x y) (k:SameD y z):SameD x z:=⟨k.s.trans h.s,k.f.trans h.f,k.wv.trans h.wv,k.wm.trans h.wm,k.wx.trans h.wx,k.sq.trans h.sq⟩
structure Root0 (x:FM) (q:Nat):Prop where
 k:(x.nd 0).k=2
 m:(x.nd 0).m=493
 u:(x.nd 0).u=0
 g:(x.nd 0).g=0
 sz:(x.nd 0).sz=0
 l:(x.nd 0).l=1
 up:(x.nd 0).up=1
 ps:(x.nd 0).ps=[]
 z:∀i,1≤i→i<32→x.nd i=nd0
 G:∀k,k<16→37≤x.G k∧x.G k<256∧hasB (hasT x.G) (x.G k)=true
 fst:Fst x.G q
 free:Free x.G q 8
 dk:DOk x
 q53:q=53
 sq0:x.sq=0
def Told (x:FM):Prop:=(x.td 37).isSome=true∧x.sq=0
structure MadeF (w w':World) (c:FC) (x:FM) (q:Nat) (m u g:Int) (x':FM):Prop where
 st:FSt w' c x'
 r0:∃pv,x'.nd 0={ x.nd 0 with sz:=16,pv:=pv,ps:=[(q:Int)] }
 r1:∃pv,x'.nd 1=⟨1,m,u,g,0,1,0,pv,[]⟩
 rz:∀i,2≤i→x'.nd i=x.nd i
 G:x'.G=gOn x.G q
 sec:fsec x' q=splice (zeros 64) 0 entL
 na:x'.na≤x.na+6
 held:x'.held=x.held∧x'.nh=x.nh
 a:x'.a=x.a
 bs:∀j,x'.bs j→x.bs j∨w.heap.size≤j
 up:Upd (fun j=>j=c.F∨j=x.a) w w'
 dk:DOk x'
 sd:SameD x x'
 t37:(x'.td 37).isSome=true
structure Made3 (x:FM) (q:Nat) (m u g:Int) (Y:TM):Prop where
 r0:∃pv,Y.nd 0={ x.nd 0 with sz:=16,pv:=pv,ps:=[(q:Int)] }
 r1:∃pv,Y.nd 1=⟨1,m,u,g,0,1,0,pv,[]⟩
 rz:∀i,2≤i→Y.nd i=x.nd i
 G:Y.G=gOn x.G q
 dy:∀j,j≠1→j≠2→Y.dy j=none
 d1:(Y.dy 1).isSome=true
 gv:Y.gv=.slice none 0 0
 np:Y.np=1
 pt:∃s,Y.pt q=some s
 po:∀j,j≠(q:Int)→Y.pt j=none
 pb:Y.pby q=splice (zeros 64) 0 entL
theorem made_end {w4 w8 w:World} {c:FC} {x:FM} {t:Nat} {Y:TM} {q:Nat} {m u g:Int}(hT:TX w4 w8 c x t Y)(h3:Made3 x q m u g Y)(hr:Root0 x q)(hna:x.na≤24)(hm:0≤m∧m≤511)(hu:0≤u∧u≤255)(hg:0≤g∧g≤255)(hw:Below w.heap.size w w4) :
  Calls Tryz.prog 55 #[.pointer (some ⟨t,0,none⟩)] w8 fun e w'=>e=.returned (.int .i64 0)∧∃x',MadeF w w' c x q m u g x':=by
 have hq:=hr.fst
 have hc1:cntD Y 16≤1:=cntD_one Y (fun k hk=>by
    unfold dirt
    rw[h3.dy _ (by omega) (by omega),h3.dy _ (by omega) (by omega)]
    rfl) 16
 have hGo:∀k,k<16→Y.G k=x.G k:=fun k hk=>by rw[h3.G];exact gOn_off q (by omega)
 have hok:∀i,i<32→NdOk (Y.nd i)∨Y.nd i=nd0:=fun i hi=>by
  rcases i with _|_|i
  ·left
   obtain⟨pv,e⟩:=h3.r0
   rw[e]
   refine⟨by have:=hr.k;simp only;omega,by have:=hr.m;simp only;omega,by have:=hr.u;simp only;omega,by have:=hr.g;simp only;omega,by have:=hr.l;simp only;omega,.inl ⟨hr.k,by have:=hr.up;simp only;omega,by have:=hr.up;simp only;omega⟩,⟨by simp,fun p hp=>by simp at hp;have:=hq.lo;have:=hq.hi;omega⟩,16,rfl,by decide,rfl⟩
  ·left
   obtain⟨pv,e⟩:=h3.r1
   rw[e]
   exact⟨by simp,hm,hu,hg,by simp,.inr ⟨by simp,rfl⟩,⟨by simp,fun p hp=>by cases hp⟩,0,rfl,by decide,rfl⟩
  ·right
   rw[h3.rz _ (by omega)]
   exact hr.z _ (by omega) hi
 refine(end_is hT hok (fun k hk=>by have:=hr.G k hk;rw[hGo k hk];omega) (hr.dk.gi hGo) h3.gv (by have:=h3.np;omega) (fun j h1 h4=>h3.po j (by have:=hq.lo;omega))).mono ?_
 rintro e w' ⟨rfl,⟨P,n,B,hn,hoff,hF,hE⟩,hU⟩
 have hqn:∀i,i<16→(q:Int)≠(Y.G i:Int):=fun i hi e=>by
  have h1:=(hr.G i hi).2.2
  rw[hGo i hi] at e
  have e:q=x.G i:=by omega
  rw[← e,hq.no] at h1
  cases h1
 obtain⟨e1,e2⟩:=hoff q (fun i hi _=>hqn i hi) (by have:=hq.lo;omega)
 refine⟨rfl,_,hF,h3.r0,h3.r1,h3.rz,h3.G,?_,?_,⟨rfl,rfl⟩,rfl,fun j hj=>?_,(Upd.below hw).trans hU,hr.dk.ended hE hoff hGo ?_ h3.rz ?_ ?_,⟨rfl,rfl,rfl,rfl,rfl,rfl⟩,?_⟩
 ·rw[keptM_sec]
  unfold tsec
  obtain⟨s,hs⟩:=h3.pt
  show (if (P q).isSome=true then B q else _)=_
  rw[e1,hs,e2,h3.pb]
  rfl
 ·show x.na+n≤x.na+6
  have:=h3.np
  omega
 ·rcases hj with hj|hj
  ·exact .inl hj
  ·exact .inr (Nat.le_trans hw.size hj.1)
 ·intro i hi hd
  rcases i with _|i
  ·rfl
  ·unfold dirt at hd
   rw[h3.dy _ (by omega) (by omega),h3.dy _ (by omega) (by omega)] at hd
   cases hd
 ·have:=h3.d1
  unfold dirt
  rw[Bool.or_eq_true]
  exact .inl this
 ·intro p s e
  by_cases hp:p=(q:Int)
  ·have:=hr.q53;omega
  ·rw[h3.po p hp] at e;cases e
 ·have hd0:dirt Y 0=true:=by
   have:=h3.d1
   unfold dirt
   rw[Bool.or_eq_true]
   exact .inl this
  have h9:=(hE.nd 0 (by decide) hd0).1
  rw[hGo 0 (by decide),hr.dk.gk 0 (by decide)] at h9
  have h9:(P 37).isSome=true:=h9
  show (if (P 37).isSome=true then P 37 else x.td 37).isSome=true
  rw[if_pos h9]
  exact h9
def fNode (m u g l:Int):Nd:=⟨1,m,u,g,0,l,0,.slice none 0 0,[]⟩
def nd1F (x:FM) (m u g:Int):Nat→Nd:=ups1 x.nd 1 (fNode m u g 1)
def nd2F (x:FM) (m u g:Int) (v7:Value):Nat→Nd:=ups1 (nd1F x m u g) 1 { (nd1F x m u g 1) with sz:=0,pv:=v7,ps:=[] }
def nd3F (x:FM) (m u g:Int) (v7 v8:Value) (q:Nat):Nat→Nd:=ups1 (nd2F x m u g v7) 0 { (nd2F x m u g v7 0) with sz:=((entL.length:Nat):Int),pv:=v8,ps:=[(q:Int)] }
theorem made3_of (x:FM) (q:Nat) (m u g:Int) (v7 v8:Value) (s8:SL) (Y:TM)(h1:Y.nd=nd3F x m u g v7 v8 q)(h2:Y.G=gOn x.G q)(h3:Y.dy=fun j=>if j=((0:Nat):Int)+1 then some () else if j=((1:Nat):Int)+1 then some () else if j=2 then some () else none)(h4:Y.gv=.slice none 0 0)(h5:Y.np=1)(h6:Y.pt=fun j=>if j=(q:Int) then some s8 else none)(h7:Y.pby=fun j=>if j=(q:Int) then splice (zeros 64) 0 entL else [])(h8:True=True):Made3 x q m u g Y:=by
 have e2:nd2F x m u g v7 0=x.nd 0:=by unfold nd2F nd1F;rw[ups1_off _ _ (by decide),ups1_off _ _ (by decide)]
 refine⟨⟨v8,?_⟩,⟨v7,?_⟩,fun i hi=>?_,h2,fun j j1 j2=>?_,by rw[h3];rfl,h4,h5,⟨s8,?_⟩,fun j hj=>?_,?_⟩
 ·rw[h1];unfold nd3F;rw[ups1_same,e2];rfl
 ·rw[h1];unfold nd3F nd2F;rw[ups1_off _ _ (by decide),ups1_same];unfold nd1F;rw[ups1_same];rfl
 ·rw[h1];unfold nd3F nd2F nd1F;rw[ups1_off _ _ (by omega),ups1_off _ _ (by omega),ups1_off _ _ (by omega)]
 ·rw[h3];simp only;rw[if_neg (by omega),if_neg (by omega),if_neg (by omega)]
 ·rw[h6];simp
 ·rw[h6];simp[hj]
 ·rw[h7];simp
section
variable {w:World} {c:FC} {x:FM}
attribute [local go_sem ↓] ld_ino st_ino2
theorem add0_is (h:FSt w c x) {q:Nat}(hr:Root0 x q)(hna:x.na≤24) {m u g:Int}(hm:0≤m∧m≤511)(hu:0≤u∧u≤255)(hg:0≤g∧g≤255) :
  Calls Tryz.prog 125 #[.pointer (some ⟨c.F,0,none⟩),.int .i64 1,.string ⟨#[102]⟩,.agg (ndA (fNode m u g 0)),.slice none 0 0] w fun e w'=>e=.returned (.tuple #[.int .i64 2,.int .i64 0])∧∃x',MadeF w w' c x q m u g x':=by
 have hal:=Go.Joins.below_alloc1 w (.cells (ndA (fNode m u g 0)) 120)
 have HP:=Lib.hid (place0F_is (h.keep hal) (i:=0) (by decide) (n:=1) rfl hr.k hr.ps hr.sz hr.l)
 have HH:=Lib.hid (h.keep hal)
 have HB:=Lib.hid hal
 have HR:=Lib.hid (row_new w 120 (ndA (fNode m u g 0)))
 have HX:=Lib.hid (And.intro hr (And.intro hna (And.intro hm (And.intro hu hg))))
 have HO:=Lib.hid h
 clear h hal hr hna hm hu hg
 obtain⟨A0,hA0⟩:∃A,A=ndA (fNode m u g 0):=⟨_,rfl⟩
 rw[← hA0] at HP HH HB HR ⊢
 have HA0:=Lib.hid hA0
 clear hA0
 go_enter Tryz.func125,Tryz.ntmps125
 go_upto_region 1 with fail
 generalize w.alloc (.cells A0 120)=w1 at *
 go_upto_region 4 with (go_at_call 205;(with_reducible refine HP.out.mono ?_);rintro e2 w2 ⟨rfl,hb2⟩)
 have HH2:=Lib.hid (HH.out.keep hb2)
 have HB2:=Lib.hid (HB.out.trans (hb2.mono HB.out.size))
 have HR2:=Lib.hid (HR.out.keep hb2)
 have HF:=Lib.hid (free1_is HH2.out HX.out.1.k (by rw[HX.out.1.z 1 (by decide) (by decide)];rfl))
 clear hb2 HP HH HB HR
 go_upto_region 7 with (go_at_call 206;(with_reducible refine HF.out.mono ?_);rintro e3 w3 ⟨rfl,hb3⟩)
 have HH3:=Lib.hid (HH2.out.keep hb3)
 have HB3:=Lib.hid (HB2.out.trans (hb3.mono HB2.out.size))
 have HR3:=Lib.hid (HR2.out.keep hb3)
 clear hb3 HF HH2 HB2 HR2
 have z5:=HR3.out.fz 5
 have y5:w3.cell? ⟨w.heap.size,5,none⟩=some (.int .i64 0):=by rw[HR3.out.cell,HA0.out];rfl
 have y0:w3.cell? ⟨w.heap.size,0,none⟩=some (.int .i64 1):=by rw[HR3.out.cell,HA0.out];rfl
 have hu4:Upd (fun j=>j=w.heap.size) w3 (w3.setCell ⟨w.heap.size,5,none⟩ (.int .i64 1)):=Upd.set w3 _ rfl
 have x0:(w3.setCell ⟨w.heap.size,5,none⟩ (.int .i64 1)).cell? ⟨w.heap.size,0,none⟩=some (.int .i64 1):=set_off (by decide) y0
 have HR4:Hid (Row (w3.setCell ⟨w.heap.size,5,none⟩ (.int .i64 1)) w.heap.size 120 (ndA (fNode m u g 1))):=Lib.hid (by
    rw[HR3.out.setCell,HA0.out]
    exact HR3.out.setRow _)
 have HH4:=Lib.hid (HH3.out.upd hu4 (fun j hj e=>by have:=HO.out.lt j hj;have e:j=w.heap.size:=e;omega))
 have HB4:=Lib.hid (HB3.out.trans (hu4.toBelow HB3.out.size (fun k hk e=>by have e:k=w.heap.size:=e;omega)))
 clear hu4 HR3 HH3 HB3
 go_upto_region 10 with fail
 generalize w3.setCell ⟨w.heap.size,5,none⟩ (.int .i64 1)=w4 at *
 have HBG:=Lib.hid (begin_is HH4.out)
 clear y0 y5 z5 x0
 go_upto_region 11 with (go_at_call 53;(with_reducible refine HBG.out.mono ?_);rintro e5 w5 ⟨t,gN,cN,db,pb,rfl,hT5⟩)
 have HT5:=Lib.hid hT5
 have hr5:=HR4.out.keepB hT5.bl HR4.out.lt
 have l5:=hr5.ld0 Tryz.underlying120 rfl (by rw[ndA_size];kernel_rfl)
 have hip:Ip (fun j=>fMut c x j∨tMut t (tm0 x gN cN db pb) j∨(¬x.bs j∧j<w4.heap.size)) w5 (fNode m u g 1):=⟨⟨none,0,rfl,Nat.le_refl _,Nat.zero_le _,.inl rfl⟩,fun j e=>(by cases e),fun j e=>(by cases e)⟩
 have HSE:=Lib.hid (set_is hT5 (i:=1) (by decide) (n:=2) rfl hip (show (0:Nat)<1000 by decide))
 clear hT5 hr5 hip HBG HR4
 obtain⟨A1,hA1⟩:∃A,A=ndA (fNode m u g 1):=⟨_,rfl⟩
 rw[← hA1] at l5 HSE
 clear hA1
 go_upto_region 12 with (go_at_call 117;(with_reducible refine HSE.out.mono ?_);rintro e6 w6 ⟨rfl,hT6,hu6⟩)
 have e6a:(ups1 x.nd 1 (fNode m u g 1) 1).ps=[]:=by rw[ups1_same];rfl
 have HFL:=Lib.hid (fill0_is hT6 (i:=1) (by decide) e6a (n:=2) rfl (az:=none) (cz:=0) (Nat.zero_le _) (show (0:Nat)+1<1000 by decide))
 clear hT6 hu6 HSE l5 HT5 e6a
 go_upto_region 13 with (go_at_call 207;(with_reducible refine HFL.out.mono ?_);rintro e7 w7 ⟨rfl,⟨v7,hT7⟩,hu7⟩)
 have e7a:(ups1 (ups1 x.nd 1 (fNode m u g 1)) 1 { (ups1 x.nd 1 (fNode m u g 1) 1) with sz:=0,pv:=v7,ps:=[] } 0)=x.nd 0:=by rw[ups1_off _ _ (by decide),ups1_off _ _ (by decide)]
 have HEN:=Lib.hid (enter0_is hT7 ((congrArg Nd.ps e7a).trans HX.out.1.ps) ((congrArg Nd.sz e7a).trans HX.out.1.sz) (q:=q) HX.out.1.fst (show (0:Nat)<1000 by decide) (show (0:Nat)+1+1<1000 by decide))
 clear hT7 hu7 HFL e7a
 go_upto_region 16 with (go_at_call 208;(with_reducible refine HEN.out.mono ?_);rintro e8 w8 ⟨rfl,hF8,-,-⟩)
 obtain⟨v8,s8,hT8⟩:=hF8
 have HEND:=Lib.hid (made_end hT8 (m:=m) (u:=u) (g:=g) (made3_of x q m u g v7 v8 s8 _ rfl rfl rfl rfl rfl rfl rfl rfl) HX.out.1 HX.out.2.1 HX.out.2.2.1 HX.out.2.2.2.1 HX.out.2.2.2.2 HB4.out)
 clear hT8 HEN HH4
 go_wp2_with (go_at_call 55;(with_reducible refine HEND.out.mono ?_);rintro e9 w9 ⟨rfl,hM⟩)
 go_ret2
 exact⟨rfl,hM⟩
theorem bd_ino (ps:Array (Nat×Value)):Instr.build 120 ps=bdR 120 ps:=rfl
theorem bd_ino_run (w:World) (m u g:Int):(bdR 120 #[(0,.int .i64 1),(1,.int .i64 m),(2,.int .i64 u),(3,.int .i64 g)]).run Tryz.prog w=.ok (.agg (ndA (fNode m u g 0))) w:=by kernel_rfl
theorem who_is (w:World) {u g:Int}(hu:0≤u∧u≤255)(hg:0≤g∧g≤255):Calls Tryz.prog 124 #[.int .i64 u,.int .i64 g] w fun e w'=>e=.returned (.bool true)∧w=w':=by
 obtain⟨h1,h2⟩:=hu
 obtain⟨h3,h4⟩:=hg
 go_enter Tryz.func124,Tryz.ntmps124
 go_wp2
 go_ret
 exact⟨rfl,rfl⟩
attribute [local go_sem ↓] bd_ino
theorem make0_is (h:FSt w c x) {q:Nat}(hr:Root0 x q)(hna:x.na≤24) {m u g:Int}(hm:0≤m∧m≤511)(hu:0≤u∧u≤255)(hg:0≤g∧g≤255) :
  Calls Tryz.prog 59 #[.pointer (some ⟨c.F,0,none⟩),.int .i64 1,.string ⟨#[102]⟩,.int .i64 1,.int .i64 m,.int .i64 u,.int .i64 g] w fun e w'=>e=.returned (.tuple #[.int .i64 2,.int .i64 0])∧∃x',MadeF w w' c x q m u g x':=by
 have HA:=Lib.hid (add0_is h hr hna hm hu hg)
 have HW:=Lib.hid (who_is w hu hg)
 have hb:=fun w=>bd_ino_run w m u g
 have m1:¬m<0:=by omega
 have m2:¬511<m:=by omega
 clear h hr hna hm hu hg
 generalize ndA (fNode m u g 0)=A at *
 go_enter Tryz.func59,Tryz.ntmps59
 go_wp2_with (first|(go_at_call 124;(with_reducible refine HW.out.mono ?_);rintro e1 w1 ⟨rfl,rfl⟩)|(go_at_call 125;(with_reducible refine HA.out.mono ?_);rintro e2 w2 ⟨rfl,hM⟩))
 go_ret2
 exact⟨rfl,hM⟩
end
def crA (U K:Int) (a:Option Addr) (cap:Nat):Array Value:=#[.int .i64 U,.int .i64 0,.slice a 0 cap,.int .i64 K,.int .i64 0,.int .i64 0]
theorem ld_crd (v:Value):Instr.loadAt 56 v=ldR 56 v:=rfl
theorem crchk_is (w:World) {U K:Int}(hU:0≤U∧U≤99)(hK:0≤K∧K≤127) (a:Option Addr) (cap:Nat)(hc:cap≤maxLen):Calls Tryz.prog 183 #[.agg (crA U K a cap)] w fun e w'=>e=.returned (.int .i64 0)∧Below w.heap.size w w':=by
 have hcm:(cap:Int)≤9223372036854775807:=by unfold maxLen at hc;omega
 have HB:Hid (Below w.heap.size w ((w.alloc (.cells (crA U K a cap) 56)).alloc (.cells #[.int .i64 U,.int .i64 0] 3))):=Lib.hid (((Below.refl _ _).alloc (Nat.le_refl _) _).alloc (by simp) _)
 have u1:¬U<0:=by omega
 have u2:¬99<U:=by omega
 have k1:¬K<0:=by omega
 have k2:¬127<K:=by omega
 unfold crA at HB ⊢
 clear hU hK
 go_enter Tryz.func183,Tryz.ntmps183
 go_wp2_with fail
 refine wp_loop_rounds 3 ?_
 rw[rounds_succ]
 go_wp2_with fail
 rw[rounds_succ]
 go_wp2_with fail
 rw[rounds_succ]
 go_wp2_with fail
 refine wp_loop_rounds 1 ?_
 rw[rounds_succ]
 go_wp2_with fail
 go_ret
 exact⟨rfl,HB.out⟩
theorem mchk_is (w:World) (n:Nd)(hm:0≤n.m∧n.m≤511)(hu:0≤n.u∧n.u≤99)(hg:0≤n.g∧n.g≤99):Calls Tryz.prog 240 #[.agg (stA n)] w fun e w'=>e=.returned (.int .i64 0)∧Below w.heap.size w w':=by
 have HB:=Lib.hid (Go.Joins.below_alloc1 w (.cells (stA n) 33))
 have m1:¬n.m<0:=by omega
 have m2:¬511<n.m:=by omega
 have u1:¬n.u<0:=by omega
 have u2:¬99<n.u:=by omega
 have g1:¬n.g<0:=by omega
 have g2:¬99<n.g:=by omega
 unfold stA at HB ⊢
 clear hm hu hg
 go_enter Tryz.func240,Tryz.ntmps240
 go_wp2_with fail
 go_ret
 exact⟨rfl,HB.out⟩
section
attribute [local go_sem ↓] ld_crd
theorem over_is (w:World) (n:Nd) {U K:Int}(hK:K=0∨K=127) (a:Option Addr) (cap:Nat):Calls Tryz.prog 243 #[.agg (stA n),.agg (crA U K a cap)] w fun e w'=>e=.returned (.int .i64 (if K=0 then 0 else if n.k=2 then 7 else 6))∧Below w.heap.size w w':=by
 have HB:Hid (Below w.heap.size w ((w.alloc (.cells (stA n) 33)).alloc (.cells (crA U K a cap) 56))):=Lib.hid (((Below.refl _ _).alloc (Nat.le_refl _) _).alloc (by simp) _)
 have b1:bits .and .i64 0 1=0:=by decide
 have b2:bits .and .i64 0 2=0:=by decide
 have b3:bits .and .i64 127 1=1:=by decide
 have b4:bits .and .i64 127 2=2:=by decide
 have b5:bits .or .i64 0 4=4:=by decide
 have b6:bits .or .i64 4 1=5:=by decide
 have b7:bits .or .i64 5 2=7:=by decide
 have b8:bits .or .i64 4 2=6:=by decide
 unfold stA crA at HB ⊢
 rcases hK with rfl|rfl
 ·rw[if_pos rfl]
  go_enter Tryz.func243,Tryz.ntmps243
  go_wp2_with fail
  go_ret
  exact⟨rfl,HB.out⟩
 ·rw[if_neg (by decide)]
  generalize n.k=kk at *
  by_cases hk:kk=2
  ·subst hk
   rw[if_pos rfl]
   go_enter Tryz.func243,Tryz.ntmps243
   go_wp2_with fail
   go_ret
   exact⟨rfl,HB.out⟩
  ·rw[if_neg hk]
   go_enter Tryz.func243,Tryz.ntmps243
   go_wp2_with fail
   go_ret
   exact⟨rfl,HB.out⟩
theorem wanted_is (w:World) {W z:Int}(h:(W=1∧z=4)∨(W=2∧z=2)∨(W=4∧z=1)):Calls Tryz.prog 241 #[.int .i64 W] w fun e w'=>e=.returned (.int .i64 z)∧w=w':=by
 have b1:bits .and .i64 1 1=1:=by decide
 have b2:bits .and .i64 1 2=0:=by decide
 have b3:bits .and .i64 1 4=0:=by decide
 have b4:bits .and .i64 2 1=0:=by decide
 have b5:bits .and .i64 2 2=2:=by decide
 have b6:bits .and .i64 2 4=0:=by decide
 have b7:bits .and .i64 4 1=0:=by decide
 have b8:bits .and .i64 4 2=0:=by decide
 have b9:bits .and .i64 4 4=4:=by decide
 have c1:bits .or .i64 4 0=4:=by decide
 have c2:bits .or .i64 0 2=2:=by decide
 have c3:bits .or .i64 2 0=2:=by decide
 have c4:bits .or .i64 0 0=0:=by decide
 have c5:bits .or .i64 0 1=1:=by decide
 rcases h with ⟨rfl,rfl⟩|⟨rfl,rfl⟩|⟨rfl,rfl⟩
 all_goals
  go_enter Tryz.func241,Tryz.ntmps241
  go_wp2_with fail
  go_ret
  exact⟨rfl,rfl⟩
end
section
attribute [local go_sem ↓] ld_crd
theorem bitsE_is (w:World) (n:Nd) {M:Nat}(hM:n.m=M) {K:Int} (a:Option Addr) (cap:Nat):Calls Tryz.prog 242 #[.agg (stA n),.agg (crA n.u K a cap)] w fun e w'=>e=.returned (.int .i64 ((M / 64:Nat):Int))∧Below w.heap.size w w':=by
 have HB:Hid (Below w.heap.size w ((w.alloc (.cells (stA n) 33)).alloc (.cells (crA n.u K a cap) 56))):=Lib.hid (((Below.refl _ _).alloc (Nat.le_refl _) _).alloc (by simp) _)
 unfold stA crA at HB ⊢
 rw[hM] at HB ⊢
 rw[Int.natCast_ediv]
 clear hM
 go_enter Tryz.func242,Tryz.ntmps242
 go_wp2_with fail
 go_ret
 exact⟨by rfl,HB.out⟩
attribute [local go_sem ↓] ld_sta
theorem may_isG (w:World) (n:Nd)(hm:0≤n.m∧n.m≤511)(hu:0≤n.u∧n.u≤99)(hg:0≤n.g∧n.g≤99) {U K:Int}(hU:0≤U∧U≤99)(hK:K=0∨K=127) (a:Option Addr) (cap:Nat)(hc:cap≤maxLen) {r:Int}(hbt:∀w,Calls Tryz.prog 242 #[.agg (stA n),.agg (crA U K a cap)] w fun e w'=>e=.returned (.int .i64 r)∧Below w.heap.size w w') {W z:Int}(hW:0≤W∧W≤7)(hwn:∀w,Calls Tryz.prog 241 #[.int .i64 W] w fun e w'=>e=.returned (.int .i64 z)∧w=w') :
  Calls Tryz.prog 167 #[.agg (stA n),.agg (crA U K a cap),.int .i64 W] w fun e w'=>e=.returned (.tuple #[.bool (bits .andNot .i64 z (bits .or .i64 r (if K=0 then 0 else if n.k=2 then 7 else 6)) == 0),.int .i64 0])∧Below w.heap.size w w':=by
 have hr:Row ((w.alloc (.cells (stA n) 33)).alloc (.cells (crA U K a cap) 56)) (w.heap.size+1) 56 (crA U K a cap):=by
  have:=row_new (w.alloc (.cells (stA n) 33)) 56 (crA U K a cap)
  simpa using this
 have hs:Row ((w.alloc (.cells (stA n) 33)).alloc (.cells (crA U K a cap) 56)) w.heap.size 33 (stA n):=(row_new w _ _).alloc _
 have HB:Hid (Below w.heap.size w ((w.alloc (.cells (stA n) 33)).alloc (.cells (crA U K a cap) 56))):=Lib.hid (((Below.refl _ _).alloc (Nat.le_refl _) _).alloc (by simp) _)
 have hK2:0≤K∧K≤127:=by omega
 have HCK:=Lib.hid (fun wx=>crchk_is wx hU hK2 a cap hc)
 have HMK:=Lib.hid (fun wx=>mchk_is wx n hm hu hg)
 have HWN:=Lib.hid hwn
 have HBT:=Lib.hid hbt
 have HOV:=Lib.hid (fun wx=>over_is wx n (U:=U) hK a cap)
 have HL:Hid (∀wx,Below ((w.alloc (.cells (stA n) 33)).alloc (.cells (crA U K a cap) 56)).heap.size ((w.alloc (.cells (stA n) 33)).alloc (.cells (crA U K a cap) 56)) wx→(ldR 33 (.pointer (some ⟨w.heap.size,0,none⟩))).run Tryz.prog wx=.ok (.agg (stA n)) wx∧(ldR 56 (.pointer (some ⟨w.heap.size+1,0,none⟩))).run Tryz.prog wx=.ok (.agg (crA U K a cap)) wx):=Lib.hid (fun wx hx=>⟨(hs.keep hx).ld0 Tryz.underlying33 rfl (by unfold stA;kernel_rfl),(hr.keep hx).ld0 Tryz.underlying56 rfl (by unfold crA;kernel_rfl)⟩)
 have w1:¬W<0:=by omega
 have w2:¬7<W:=by omega
 generalize (if K=0 then (0:Int) else if n.k=2 then 7 else 6)=o at *
 clear hr hs hm hu hg hU hK hc hbt hW hwn hK2
 generalize crA U K a cap=A at *
 generalize stA n=S at *
 go_enter Tryz.func167,Tryz.ntmps167
 go_upto_region 1 with fail
 generalize (w.alloc (.cells S 33)).alloc (.cells A 56)=w3 at *
 obtain⟨l1,l2⟩:=HL.out _ (Below.refl _ _)
 have HC3:=Lib.hid (HCK.out w3)
 go_upto_region 4 with (go_at_call 183;(with_reducible refine HC3.out.mono ?_);rintro e1 w4 ⟨rfl,hb4⟩)
 obtain⟨k1,k2⟩:=HL.out _ hb4
 have HB4:=Lib.hid hb4
 have HM4:=Lib.hid (HMK.out w4)
 clear hb4 l1 l2 HC3
 go_upto_region 9 with (go_at_call 240;(with_reducible refine HM4.out.mono ?_);rintro e1 w5 ⟨rfl,hb5⟩)
 have HB5:=Lib.hid (HB4.out.trans (hb5.mono HB4.out.size))
 clear hb5 k1 k2 HM4 HB4
 go_region_held3 (fun wx=>(ldR 33 (.pointer (some ⟨w.heap.size,0,none⟩))).run Tryz.prog wx=.ok (.agg S) wx∧(ldR 56 (.pointer (some ⟨w.heap.size+1,0,none⟩))).run Tryz.prog wx=.ok (.agg A) wx) (first|(with_reducible exact HL.out _ HB5.out.drew)|(with_reducible exact HL.out _ HB6.out)|(with_reducible exact HL.out _ HB7.out)|fail) (first|(go_at_call 241;(with_reducible refine(HWN.out _).mono ?_);rintro e6 w6 ⟨rfl,rfl⟩)|(go_at_call 242;(with_reducible refine(HBT.out _).mono ?_);rintro e6 w6 ⟨rfl,hb6⟩;have HB6:=Lib.hid (HB5.out.drew.trans (hb6.mono HB5.out.drew.size));clear hb6)|(go_at_call 243;(with_reducible refine(HOV.out _).mono ?_);rintro e7 w7 ⟨rfl,hb7⟩;have HB7:=Lib.hid (HB6.out.trans (hb7.mono HB6.out.size));clear hb7)|fail)
 all_goals
  go_wp2_with fail
  go_ret2
  first|exact⟨rfl,HB.out.trans (HB7.out.mono HB.out.size)⟩
theorem may_is (w:World) (n:Nd)(hm:0≤n.m∧n.m≤511)(hu:0≤n.u∧n.u≤99)(hg:0≤n.g∧n.g≤99) {U K:Int}(hU:0≤U∧U≤99)(hK:K=0∨K=127) (a:Option Addr) (cap:Nat)(hc:cap≤maxLen) {r:Int}(hbt:∀w,Calls Tryz.prog 242 #[.agg (stA n),.agg (crA U K a cap)] w fun e w'=>e=.returned (.int .i64 r)∧Below w.heap.size w w') {W z:Int}(hz:(W=1∧z=4)∨(W=2∧z=2)∨(W=4∧z=1)) :
  Calls Tryz.prog 167 #[.agg (stA n),.agg (crA U K a cap),.int .i64 W] w fun e w'=>e=.returned (.tuple #[.bool (bits .andNot .i64 z (bits .or .i64 r (if K=0 then 0 else if n.k=2 then 7 else 6)) == 0),.int .i64 0])∧Below w.heap.size w w':=
 may_isG w n hm hu hg hU hK a cap hc hbt (by omega) (fun wx=>wanted_is wx hz)
end
theorem count1_is (w:World) (s:ByteArray):Calls Tryz.prog 263 #[.string s,.string ⟨#[47]⟩] w fun e w'=>e=.returned (.int .i64 (Lib.countByte s.data.toList 47))∧w=w':=by
 have hi:(Instr.index 9 (.string ⟨#[47]⟩) (.int .i64 0)).run Tryz.prog w=.ok (.int .u8 47) w:=by kernel_rfl
 go_enter Tryz.func263,Tryz.ntmps263
 go_wp2
 rw[run_callFunc_extern Tryz.func311 (by kernel_rfl) (by kernel_rfl) (by kernel_rfl) (e:=Extern.BytealgCount.count) (by kernel_rfl),Lib.run_countString]
 simp only[Result.andThen]
 rw[Oper.upon_value]
 go_wp2
 go_ret
 exact⟨rfl,rfl⟩
def mkS (a b:Value):Sem Value:=Instr.makeSlice 142 a b
theorem mkS_eq (a b:Value):Instr.makeSlice 142 a b=mkS a b:=rfl
theorem mkS1 (w:World):(mkS (.int .i64 1) (.int .i64 1)).run Tryz.prog w=.ok (.slice (some ⟨w.heap.size,0,none⟩) 1 1) (w.alloc (.cells #[.string ⟨#[]⟩] 9)):=by kernel_rfl
section
attribute [local go_sem ↓] mkS_eq
theorem gsplit_is (w:World):Calls Tryz.prog 200 #[.string ⟨#[102]⟩,.string ⟨#[47]⟩,.int .i64 0,.int .i64 (-1)] w fun e w'=>∃g,e=.returned (.slice (some ⟨g,0,none⟩) 1 1)∧w.heap.size≤g∧Row w' g 9 #[.string ⟨#[102]⟩]∧Below w.heap.size w w':=by
 have HC:=Lib.hid (count1_is w ⟨#[102]⟩)
 have e0:Lib.countByte (⟨#[102]⟩:ByteArray).data.toList 47=0:=by decide
 rw[e0] at HC
 have hm:=mkS1 w
 have hr:=row_new w 9 #[.string ⟨#[]⟩]
 have y0:=hr.cell 0
 have z0:=hr.fz 0
 have HR:=Lib.hid hr
 have HB:=Lib.hid (Go.Joins.below_alloc1 w (.cells #[.string ⟨#[]⟩] 9))
 clear hr
 go_enter Tryz.func200,Tryz.ntmps200
 go_upto_region 8 with (go_at_call 263;(with_reducible refine HC.out.mono ?_);rintro e1 w1 ⟨rfl,rfl⟩)
 go_upto_region 9 with fail
 generalize w.alloc (.cells #[.string ⟨#[]⟩] 9)=w2 at *
 obtain⟨z,hz⟩:∃z,z=w.heap.size:=⟨_,rfl⟩
 rw[← hz] at y0 z0 HR ⊢
 have HZ:=Lib.hid hz
 clear hz hm
 go_wp2_with fail
 refine wp_loop_rounds 1 ?_
 rw[rounds_succ]
 go_wp2_with fail
 go_ret
 refine⟨z,rfl,Nat.le_of_eq HZ.out.symm,?_,HB.out.trans ((Upd.set (S:=fun j=>j=z) w2 (b:=z) (i:=0) (.string ⟨#[102]⟩) rfl).toBelow HB.out.size (fun k hk e=>by have e:k=z:=e;have:=HZ.out;omega))⟩
 rw[HR.out.setCell]
 exact HR.out.setRow _
end
def apS:=Builtin.append_ #[142,142] 142
theorem apS_eq:Builtin.append_ #[142,142] 142=apS:=rfl
theorem infoS:(Tryz.prog.info? 9).map (fun i=>(i.zero,i.size,i.bytes))=some (some (.string ⟨#[]⟩),1,16):=by kernel_rfl
theorem pushS (w:World) (s:ByteArray):∃g c w',(apS #[.slice none 0 0,.slice (some ⟨w.heap.size,0,none⟩) 1 1]).run Tryz.prog (w.alloc (.cells #[.string s] 9))=.ok (.slice (some ⟨g,0,none⟩) 1 c) w'∧w.heap.size≤g∧w'.cell? ⟨g,0,none⟩=some (.string s)∧1≤c∧c≤maxLen∧Below w.heap.size w w':=by
 have hal:=Go.Joins.below_alloc1 w (.cells #[.string s] 9)
 obtain⟨i0,hi,hz0,hz1,hz2⟩:=info_parts infoS
 obtain⟨v',w',hr,ho,hg,-⟩:=run_append_fresh (P:=Tryz.prog) (w.alloc (.cells #[.string s] 9)) w.heap.size 142 142 9 i0 _ 1 16 Tryz.underlying142 hi hz0 hz1 hz2 rfl (by decide) (.slice none 0 0) 0 [] (World.ownsRow_nil _ _ _ _) ⟨w.heap.size,0,none⟩ 1 1 [.string s] rfl (cells1_new w (.string s) 9) (by intro u hu;simp at hu;rw[hu];rfl) (by unfold maxLen;omega) (by omega) hal.size
 have ho:w'.ownsRow w.heap.size 9 1 v' 1 [.string s]:=ho
 rcases ho.2 with ⟨_,h0⟩|⟨g,cap,cur,rfl,hB,hgg,h1,h2,h3,h4⟩
 ·omega
 ·have hrow:Row w' g 9 cur:=hgg
  refine⟨g,cap,w',hr,hB,?_,h1,h2,hal.trans ((Below.refl _ _).grown hg hal.size (fun g hgg=>by simp[Value.ownBlock] at hgg))⟩
  rw[hrow.cell]
  have:(cur.toList.take (1*1))[0]?=some (.string s):=by rw[h4];rfl
  rw[List.getElem?_take,if_pos (by decide),Array.getElem?_toList] at this
  exact this
section
attribute [local go_sem ↓] apS_eq
theorem ssplit_is (w:World):Calls Tryz.prog 122 #[.string ⟨#[102]⟩,.string ⟨#[47]⟩] w fun e w'=>∃g,e=.returned (.slice (some ⟨g,0,none⟩) 1 1)∧w.heap.size≤g∧Row w' g 9 #[.string ⟨#[102]⟩]∧Below w.heap.size w w':=by
 have HG:=Lib.hid (gsplit_is w)
 go_enter Tryz.func122,Tryz.ntmps122
 go_wp2_with (go_at_call 200;(with_reducible refine HG.out.mono ?_);rintro e1 w1 ⟨g,rfl,h⟩)
 go_ret
 exact⟨g,rfl,h⟩
theorem psplit_is (w:World):Calls Tryz.prog 56 #[.string ⟨#[102]⟩] w fun e w'=>∃g c,e=.returned (.tuple #[.bool false,.slice (some ⟨g,0,none⟩) 1 c,.int .i64 0])∧w.heap.size≤g∧w'.cell? ⟨g,0,none⟩=some (.string ⟨#[102]⟩)∧1≤c∧c≤maxLen∧Below w.heap.size w w':=by
 have HG:=Lib.hid (ssplit_is w)
 have hi:∀w,(Instr.index 9 (.string ⟨#[102]⟩) (.int .i64 0)).run Tryz.prog w=.ok (.int .u8 102) w:=fun w=>by kernel_rfl
 go_enter Tryz.func56,Tryz.ntmps56
 go_wp2_with (go_at_call 122;(with_reducible refine HG.out.mono ?_);rintro e1 w1 ⟨g,rfl,hg,hr,hb1⟩;have y0:=hr.cell 0;have HB1:=Lib.hid hb1;clear hr hb1 hg)
 refine wp_loop_rounds 2 ?_
 rw[rounds_succ]
 obtain⟨g2,c2,w2,hap,hg2,hc2,h1,h2,hb2⟩:=pushS w1 ⟨#[102]⟩
 have hcm:(c2:Int)≤9223372036854775807:=by unfold maxLen at h2;omega
 have HF:=Lib.hid (And.intro (Nat.le_trans HB1.out.size hg2) (And.intro hc2 (And.intro h1 (And.intro h2 (HB1.out.trans (hb2.mono HB1.out.size))))))
 clear hg2 hc2 h1 h2 hb2
 go_wp2_with fail
 rw[rounds_succ]
 have hi2:=hi w2
 go_wp2_with fail
 first|go_ret3|go_ret
 exact⟨g2,c2,rfl,HF.out⟩
end
end Go.Proofs.YtfkepfncgdlgoaaGreatDoor
