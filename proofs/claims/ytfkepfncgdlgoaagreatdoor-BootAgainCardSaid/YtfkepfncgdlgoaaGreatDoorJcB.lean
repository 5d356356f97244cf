/- The walk of journal's Commit. -/
import Derived.Test.YtfkepfncgdlgoaaGreatDoorJcA
import Derived.StillTailTactics
namespace Go.Proofs.YtfkepfncgdlgoaaGreatDoor
open Go.RowKit Go.Maps
set_option linter.unusedVariables false
set_option linter.unusedSimpArgs false
set_option maxRecDepth 100000
set_option maxHeartbeats 8000000
structure JOk (s:List Int) (q:Nat) (l:List WR):Prop where
 hd:sect s 5=headL q l
 dat:∀i y,l[i]?=some y→sect s (6+i)=y.l
 tl:sect s (6+l.length)=tailL q l
theorem tail0 (q m:Nat):splice (splice ((zeros 64).set 0 67) 1 (wordL q)) 5 (wordL m)=(67:Int)::wordL q++(wordL m++zeros 55):=by
 rfl
theorem tail_copy {w w11:World} {tb q:Nat}(h:BK w tb (splice ((zeros 64).set 0 67) 1 (wordL q)))(hb:Below w.heap.size w w11) (m:Nat):∃w13,(copyB #[.slice (some ⟨tb,5,none⟩) 59 59,.slice (some ⟨w11.heap.size,0,none⟩) 4 4]).run Tryz.prog (w11.alloc (.cells ((wordL m).map u8V).toArray 5))=.ok (.int .i64 4) w13∧BK w13 tb (splice (splice ((zeros 64).set 0 67) 1 (wordL q)) 5 (wordL m))∧Upd (fun j=>j=tb) (w11.alloc (.cells ((wordL m).map u8V).toArray 5)) w13:=by
 have hk:=h.keep (hb.alloc hb.size (.cells ((wordL m).map u8V).toArray 5))
 have hwd:=bk_new w11 (wordL m)
 have:=run_copyB (w:=w11.alloc (.cells ((wordL m).map u8V).toArray 5)) (g:=tb) (o:=5) (dL:=59) (dC:=59) (sL:=4) (sC:=4) (sb:=w11.heap.size) (so:=0) (cs:=wordL m) hk (by rfl) (fun i hi=>by rw[Nat.zero_add];exact hwd.cell hi) (by simp[zeros_len,wordL,splice])
 exact⟨_,this,hk.setRow _,Upd.setRow _ _ rfl⟩
theorem stp_range (n c:Int):0≤stp n c∧stp n c<4294967296:=by
 unfold stp
 rw[IntKind.wrap_u32]
 omega
theorem sumB_range (z:List Int):∀n:Int,0≤n∧n<4294967296→0≤sumB n z∧sumB n z<4294967296:=by
 induction z with
 | nil=>exact fun n h=>h
 | cons c z ih=>exact fun n _=>ih _ (stp_range n c)
theorem sumW_range (l:List WR):0≤sumW l∧sumW l<4294967296:=by
 have:∀(l:List WR) (n:Int),0≤n∧n<4294967296→0≤l.foldl stW n∧l.foldl stW n<4294967296:=by
  intro l
  induction l with
  | nil=>exact fun n h=>h
  | cons x l ih=>exact fun n _=>ih _ (sumB_range _ _ (stp_range _ _))
 exact this l _ (by decide)
theorem JS.wl {w0 w:World} {L D sb nb g cap m:Nat} {l:List WR} {q:Int} {wv:Value} {s f:List Int}(h:JS w0 w L D sb nb g cap l q wv m s f)(hp:∀y∈l,y.n<256∧(y.n<5∨37≤y.n)):WL w g l:=⟨h.sr.lt,fun i x e=>⟨h.sr.cell e (j:=0) (by decide),h.sr.cell e (j:=1) (by decide)⟩,fun x hx=>⟨(h.ok x hx).1,(h.ok x hx).2.1,(hp x hx).1⟩⟩
section
variable {w:World} {L D sb nb g cap m:Nat} {l:List WR} {q:Nat} {wv:Value} {s f:List Int}
attribute [local go_sem ↓] copyB_eq appR_eq mkB_eq
theorem commit_is (hl:LogR w L D q)(hd:Dk w D sb nb wv m 256 s f)(hs:SWr w g cap l)(ho:WrOk l)(hok:WsOk (fun j=>j=g∨j=L∨j=D∨j=sb∨j=nb) w l)(h0:l≠[]) {n:Nat}(hn:n=l.length)(hne:L≠g∧(L≠D∧L≠sb∧L≠nb)∧(g≠D∧g≠sb∧g≠nb))(hq:q+1<4294967296) :
  Calls Tryz.prog 61 #[.pointer (some ⟨L,0,none⟩),.slice (some ⟨g,0,none⟩) n cap] w fun e w'=>e=.returned (.int .i64 0)∧LogR w' L D ((q+1:Nat):Int)∧(∃wv' s' f' wc l',DW w' D sb nb wv' 256 s' f' wc∧SameW l l'∧JOk s' (q+1) l∧(∀p,p<256→(p<5∨37≤p)→sect s' p=sect f p)∧f'=wrAll s' l'∧(wc.map fun y=>(y.n,y.l))=(l'.map fun y=>(y.n,y.l))∧(∀y∈wc,∀j,y.v.ownBlock=some j→w.heap.size≤j)∧∀j,wv'.ownBlock=some j→w.heap.size≤j)∧Upd (fun j=>j=L∨j=D∨j=sb∨j=nb) w w':=by
 have HJR:=Lib.hid (jright_is hl hd hs ho hn)
 have HQ:=Lib.hid hq
 have HN:=Lib.hid (And.intro hn (And.intro h0 (And.intro ho hne)))
 have HK:=Lib.hid hok
 have HFLEN:Hid (f.length=256*64):=Lib.hid hd.lf
 have HH:=Lib.hid (And.intro hl (And.intro hd hs))
 have hn12:(n:Int)≤12:=by have:=ho.le;omega
 have hn0:¬(n:Int)=0:=by have:0<l.length:=List.length_pos_iff.2 h0;omega
 have hcap:n≤cap:=by rw[hn];exact hs.le
 clear hl hd hs ho hok h0 hn hne hq
 go_enter Tryz.func61,Tryz.ntmps61
 go_upto_region 4 with (go_at_call 131;refine HJR.out.mono ?_;rintro e1 w1 ⟨rfl,hb1⟩)
 have HL1:Hid (LogR w1 L D q):=Lib.hid (Row.keep HH.out.1 hb1)
 have HD1:=Lib.hid (HH.out.2.1.keep hb1)
 have HS1:=Lib.hid (HH.out.2.2.keep hb1)
 have HK1:=Lib.hid (HK.out.keep hb1)
 have HB1:=Lib.hid hb1
 have c0:w1.cell? ⟨L,0,none⟩=some (.pointer (some ⟨D,0,none⟩)):=by rw[Row.cell HL1.out];rfl
 have HFL:=Lib.hid (flush_is HD1.out)
 clear hb1 HH HK HJR
 go_upto_region 7 with (go_at_call 46;refine HFL.out.mono ?_;rintro e2 w2 ⟨rfl,hd2,hu2⟩;have HD2:=Lib.hid hd2;have HU2:=Lib.hid hu2;clear hd2 hu2)
 have HJ2:Hid (JS w2 w2 L D sb nb g cap l q (.slice none 0 0) 0 f f):=Lib.hid (by
    obtain⟨hn,h0,ho,n1,⟨n2,n3,n4⟩,n5,n6,n7⟩:=HN.out
    have hz:=HU2.out.size
    have hsr:=HS1.out.upd HU2.out (fun e=>e.elim n5 n6)
    have hok2:=HK1.out.upd HU2.out (fun x hx j e q=>((HK1.out x hx).2.2 j e).1 (q.elim (fun a=>.inr (.inr (.inl a))) (fun a=>.inr (.inr (.inr (.inl a))))))
    have hlg:=HL1.out.upd HU2.out (fun e=>e.elim n2 n3)
    exact⟨hlg,HD2.out,hsr,hok2,fun j e=>(by cases e),⟨n1,⟨n2,n3,n4⟩,n5,n6,n7⟩,⟨Row.lt hlg,hsr.lt,HD2.out.lt,HD2.out.sB.lt,HD2.out.nB.lt,fun x hx j e=>((hok2 x hx).2.2 j e).2⟩,Upd.refl _ _⟩)
 clear c0 HFL HL1 HD1 HS1 HK1 HD2
 have c3:=HJ2.out.c3
 have z3:w2.frozen? ⟨L,3,none⟩=false:=Row.fz HJ2.out.lg 3
 have HJ3:=Lib.hid (HJ2.out.seq ((q+1:Nat):Int))
 have qi:(q:Int)+1<4294967296:=by have:=HQ.out;omega
 rw[show ((q+1:Nat):Int)=(q:Int)+1 by omega] at HJ3
 have HW2:Hid (w2.heap.size≤(w2.setCell ⟨L,3,none⟩ (.int .u32 ((q:Int)+1))).heap.size):=Lib.hid (by simp)
 have hmk:=mkB64
 have hal4:=Go.Joins.below_alloc1 (w2.setCell ⟨L,3,none⟩ (.int .u32 ((q:Int)+1))) (.cells ((zeros 64).map u8V).toArray 5)
 have HJ4:=Lib.hid (HJ3.out.keep hal4)
 have HZ4:=Lib.hid (bk_new (w2.setCell ⟨L,3,none⟩ (.int .u32 ((q:Int)+1))) (zeros 64))
 rw[show (w2.setCell ⟨L,3,none⟩ (.int .u32 ((q:Int)+1))).heap.size=w2.heap.size by simp] at HZ4
 obtain⟨zb,hzb⟩:∃zb,zb=w2.heap.size:=⟨_,rfl⟩
 rw[← hzb] at HZ4
 have HZB:Hid (w2.heap.size≤zb):=Lib.hid (by rw[hzb];exact Nat.le_refl _)
 go_upto_region 9 with fail
 rw[← hzb]
 clear hzb hal4 c3 z3 HJ3 HW2
 generalize (w2.setCell ⟨L,3,none⟩ (.int .u32 ((q:Int)+1))).alloc (.cells ((zeros 64).map u8V).toArray 5)=w4 at *
 have c0:=HJ4.out.c0
 have c1:=HJ4.out.c1
 have hdr4:Below w4.heap.size w4 w4.drew:=(Below.refl _ _).drew
 have HWR:=Lib.hid (jwrite_is (HJ4.out.keep hdr4) (k:=5) (by decide) (zeros_len 64) ((HZ4.out.at (zeros_len 64)).keep hdr4) (by decide) (fun j e=>(HJ4.out.keep hdr4).nD (by have e3:zb=j:=Option.some.inj e;have:=HZB.out;omega) (by simp[Value.ownBlock])))
 go_still_tail 9,(by kernel_rfl)
 change wpList _ _ _ _ _ w4.drew
 go_upto_region 10 with (go_at_call 41;refine HWR.out.mono ?_;rintro e5 w5 ⟨rfl,wv5,hj5,hu5,hf5⟩;have HJ5:=Lib.hid hj5;have HU5:=Lib.hid (And.intro hu5 hf5);clear hj5 hu5 hf5)
 have c0:=HJ5.out.c0
 have HFL5:=Lib.hid (jflush_is HJ5.out)
 have HZ5:Hid (BK w5 zb (zeros 64)):=Lib.hid ((HZ4.out.keep hdr4).upd HU5.out.1 ((HJ4.out.keep hdr4).nD HZB.out (by simp[Value.ownBlock])))
 clear HJ4 HZ4 hdr4 HWR HU5 c1
 go_upto_region 11 with (go_at_call 46;refine HFL5.out.mono ?_;rintro e6 w6 ⟨rfl,hj6,hu6⟩;have HJ6:=Lib.hid hj6;have HZ6:Hid (BK w6 zb (zeros 64)):=Lib.hid (HZ5.out.upd hu6 (fun e=>e.elim (hj6.mine HZB.out).1 (hj6.mine HZB.out).2.1));clear hj6 hu6)
 clear HFL5 HZ5 HJ5 c0
 have hal7:=Go.Joins.below_alloc1 w6 (.cells ((zeros 64).map u8V).toArray 5)
 have HJ7:=Lib.hid (HJ6.out.keep hal7)
 have HZ7:=Lib.hid (HZ6.out.keep hal7)
 have HH7:=Lib.hid (bk_new w6 (zeros 64))
 obtain⟨hb,hhb⟩:∃hb,hb=w6.heap.size:=⟨_,rfl⟩
 rw[← hhb] at HH7
 have HHB:Hid (w2.heap.size≤hb∧zb<hb):=Lib.hid (by rw[hhb];exact⟨HJ6.out.size,HZ6.out.lt⟩)
 go_upto_region 12 with fail
 rw[← hhb]
 clear hhb hal7 HJ6 HZ6
 generalize w6.alloc (.cells ((zeros 64).map u8V).toArray 5)=w7 at *
 have d0:w7.cell? ⟨hb,0,none⟩=some (.int .u8 0):=HH7.out.cell (i:=0) (by decide)
 have d5:w7.cell? ⟨hb,5,none⟩=some (.int .u8 0):=HH7.out.cell (i:=5) (by decide)
 have f0:=HH7.out.fz 0
 have f5:=HH7.out.fz 5
 have HH8:Hid (BK ((w7.setCell ⟨hb,0,none⟩ (.int .u8 74)).setCell ⟨hb,5,none⟩ (.int .u8 n)) hb (((zeros 64).set 0 74).set 5 n)):=Lib.hid ((HH7.out.set (by decide) 74).set (by simp[zeros_len]) n)
 have HU8:Hid (Upd (fun j=>j=hb) w7 ((w7.setCell ⟨hb,0,none⟩ (.int .u8 74)).setCell ⟨hb,5,none⟩ (.int .u8 n))):=Lib.hid ((Upd.set (S:=fun j=>j=hb) _ _ rfl).trans (Upd.set (S:=fun j=>j=hb) _ _ rfl))
 have HJ8:=Lib.hid (HJ7.out.upd HU8.out (fun j e=>by rw[e];exact⟨HHB.out.1,by simp[Value.ownBlock]⟩))
 have HZ8:=Lib.hid (HZ7.out.upd HU8.out (fun e=>by have:=HHB.out.2;omega))
 go_upto_region 13 with fail
 clear d0 d5 f0 f5 HJ7 HH7 HZ7 HU8
 generalize (w7.setCell ⟨hb,0,none⟩ (.int .u8 74)).setCell ⟨hb,5,none⟩ (.int .u8 n)=w8 at *
 have c3:=HJ8.out.c3
 have hdr8:Below w8.heap.size w8 w8.drew:=(Below.refl _ _).drew
 have HWD:Hid (∀w,Calls Tryz.prog 132 #[.int .u32 ((q:Int)+1)] w fun e w'=>e=.returned (.slice (some ⟨w.heap.size,0,none⟩) 4 4)∧w'=w.alloc (.cells ((wordL (q+1)).map u8V).toArray 5)):=Lib.hid (fun w=>by have:=word_is w HQ.out;rw[show ((q+1:Nat):Int)=(q:Int)+1 by omega] at this;exact this)
 have HC3:Hid (∀wz,Below w8.heap.size w8 wz→wz.cell? ⟨L,3,none⟩=some (.int .u32 ((q:Int)+1))):=Lib.hid (fun wz hb=>by have:=(HJ8.out.keep hb).c3;exact this)
 have HCP:Hid (∃w9 w10,w9=w8.drew.alloc (.cells ((wordL (q+1)).map u8V).toArray 5)∧(copyB #[.slice (some ⟨hb,1,none⟩) 63 63,.slice (some ⟨w8.heap.size,0,none⟩) 4 4]).run Tryz.prog w9=.ok (.int .i64 4) w10∧BK w10 hb (splice (((zeros 64).set 0 74).set 5 n) 1 (wordL (q+1)))∧Upd (fun j=>j=hb) w9 w10∧Below w8.heap.size w8 w9):=Lib.hid (by
    have hb9:Below w8.heap.size w8 (w8.drew.alloc (.cells ((wordL (q+1)).map u8V).toArray 5)):=hdr8.alloc (Nat.le_refl _) _
    have hk:=HH8.out.keep hb9
    have hwd:=bk_new w8.drew (wordL (q+1))
    have:=run_copyB (w:=w8.drew.alloc (.cells ((wordL (q+1)).map u8V).toArray 5)) (g:=hb) (o:=1) (dL:=63) (dC:=63) (sL:=4) (sC:=4) (sb:=w8.heap.size) (so:=0) (cs:=wordL (q+1)) hk (by rfl) (fun i hi=>by rw[Nat.zero_add];exact hwd.cell hi) (by simp[zeros_len,wordL])
    exact⟨_,_,rfl,this,hk.setRow _,Upd.setRow _ _ rfl,hb9⟩)
 obtain⟨w9,w10,hw9,hcp,hbk10,hu10,hb9⟩:=HCP.out
 have HW9:=Lib.hid hw9
 have HH10:=Lib.hid hbk10
 have HU10:Hid (Upd (fun j=>j=hb) w8 w10):=Lib.hid ((Upd.below hb9).trans hu10)
 have HJ10:=Lib.hid (HJ8.out.upd HU10.out (fun j e=>by rw[e];exact⟨HHB.out.1,by simp[Value.ownBlock]⟩))
 have HZ10:=Lib.hid (HZ8.out.upd HU10.out (fun e=>by have:=HHB.out.2;omega))
 have HC9:=Lib.hid (HC3.out w9 hb9)
 have HC10:Hid (w10.cell? ⟨L,3,none⟩=some (.int .u32 ((q:Int)+1))):=Lib.hid (by have:=HJ10.out.c3;exact this)
 clear hw9 hbk10 hu10 hb9 HCP
 go_region_held3 (fun wz=>wz.cell? ⟨L,3,none⟩=some (.int .u32 ((q:Int)+1))) (first|(with_reducible exact HC3.out _ (Below.refl _ _))|(with_reducible exact HC3.out _ (Below.refl _ _).drew)|(with_reducible exact HC9.out)|(with_reducible exact HC10.out)|fail) (first|(go_at_call 132;(with_reducible refine(HWD.out _).mono ?_);rintro e9 w9' ⟨rfl,hw9⟩;rw[← HW9.out] at hw9;subst hw9)|fail)
 have HI0:Hid (CI w2 w10 L D sb nb g cap zb hb l q n (putS f 5 (zeros 64)) 0 0 0 0 (.slice none 0 0) (putS f 5 (zeros 64)) [] (.slice none 0 0)):=Lib.hid (by
    have hj:=HJ10.out
    have hh:=HH10.out
    rw[head0] at hh
    refine⟨hj,HZ10.out,?_,World.ownsRow_nil _ _ _ _,rfl,fun _ q=>(nomatch q),⟨by simp[Value.ownBlock],by simp[Value.ownBlock],fun j e=>(by cases e)⟩,⟨HZB.out,HHB.out.2⟩,Nat.le_refl _,fun k y hk=>absurd hk (Nat.not_lt_zero _),fun p _ _=>rfl⟩
    exact hh)
 clear HJ8 HZ8 HH8 HJ10 HZ10 HH10 HC3 HC9 HC10 HU10 HWD hdr8 c3 HW9
 go_wp2_with fail
 go_loopw [8,67] (fun tv iv wr=>∃(i m':Nat) (wv':Value) (fI:List Int) (lt:List WR) (pp:Option Addr) (nn cc:Nat),i≤n∧iv=.int .i64 i∧tv=.slice pp nn cc∧Hid (nn=lt.length)∧Hid (CI w2 wr L D sb nb g cap zb hb l q n (putS f 5 (zeros 64)) i i i m' wv' fI lt (.slice pp nn cc))) (fun _ iv _=>n-(intOf iv).toNat)
 case atStart=>exact⟨0,0,.slice none 0 0,_,[],none,0,0,by omega,by simp,rfl,Lib.hid rfl,HI0⟩
 case round=>
  clear HI0
  obtain⟨i,m',wv',fI,lt,pp,nn,cc,hi,rfl,rfl,HNN,HI⟩:=hrel
  have HL12:Hid (l.length≤12∧lt.length=i):=Lib.hid (by
      refine⟨HN.out.2.2.1.le,?_⟩
      have:=congrArg List.length HI.out.pr
      simp only[List.length_map,List.length_take] at this
      have:=HN.out.1
      omega)
  by_cases hlt:i<n
  ·have hji:(i:Int)<n:=by omega
   obtain⟨x,hx⟩:∃x,l[i]?=some x:=⟨_,List.getElem?_eq_getElem (by have:=HN.out.1;omega)⟩
   have hxm:=List.mem_of_getElem? hx
   have hx256:=(HN.out.2.2.1.pos x hxm).1
   obtain⟨a,vc,hve⟩:=HN.out.2.2.1.v x hxm
   have kk0:=HI.out.js.sr.cell hx (j:=0) (by decide)
   have kk1:=HI.out.js.sr.cell hx (j:=1) (by decide)
   have k0:wr.cell? ⟨g,i*2,none⟩=some (.int .i64 x.n):=kk0
   have k1:wr.cell? ⟨g,i*2+1,none⟩=some (.slice (some a) 64 vc):=by rw[kk1];show some x.v=_;rw[hve]
   have HX:=Lib.hid (And.intro hx hve)
   have hal:=Go.Joins.below_alloc1 wr (.cells #[.int .i64 x.n,.slice (some a) 64 vc] 228)
   have HI1:=Lib.hid (HI.out.keep hal)
   have HR1:=Lib.hid (row_new wr 228 #[.int .i64 x.n,.slice (some a) 64 vc])
   obtain⟨pn,hpn⟩:∃pn,pn=wr.heap.size:=⟨_,rfl⟩
   rw[← hpn] at HR1
   have HPN:Hid (hb<pn∧∀j,wv'.ownBlock=some j→j<pn):=Lib.hid (by
        rw[hpn]
        exact⟨HI.out.h.lt,fun j e=>by obtain⟨xs,ho⟩:=HI.out.js.dk.own;exact(ho.lt j e).2⟩)
   clear hx hxm hve kk0 kk1 hal
   go_upto_region 18 with fail
   rw[← hpn]
   clear hpn k0 k1
   generalize wr.alloc (.cells #[.int .i64 x.n,.slice (some a) 64 vc] 228)=wa at *
   have d0:wa.cell? ⟨pn,0,none⟩=some (.int .i64 x.n):=by rw[HR1.out.cell];rfl
   have hi12:i<12:=by have:=HL12.out.1;have:=HN.out.1;omega
   have dh:wa.cell? ⟨hb,6+i,none⟩=some (.int .u8 ((headI (q+1) n (l.take i)).getD (6+i) 0)):=HI1.out.h.cell (by rw[headI_len _ _ _ (by rw[List.length_take];have:=HL12.out.1;omega)];omega)
   have fh:=HI1.out.h.fz (6+i)
   have HI2:=Lib.hid (HI1.out.head HX.out.1 HL12.out.1)
   have HR2:Hid (Row (wa.setCell ⟨hb,6+i,none⟩ (.int .u8 x.n)) pn 228 #[.int .i64 x.n,.slice (some a) 64 vc]):=Lib.hid (HR1.out.upd (Upd.set (S:=fun j=>j=hb) _ _ rfl) (fun e=>by have:=HPN.out.1;omega))
   have bi:(6:Int)+i<64:=by omega
   go_upto_region 19 with fail
   clear d0 dh fh
   generalize wa.setCell ⟨hb,6+i,none⟩ (.int .u8 x.n)=wb at *
   have c0:=HI2.out.js.c0
   have c1:=HI2.out.js.c1
   have e0:wb.cell? ⟨pn,0,none⟩=some (.int .i64 x.n):=by rw[HR2.out.cell];rfl
   have e1:wb.cell? ⟨pn,1,none⟩=some (.slice (some a) 64 vc):=by rw[HR2.out.cell];rfl
   have hdb:Below wb.heap.size wb wb.drew:=(Below.refl _ _).drew
   have HI3:=Lib.hid (HI2.out.keep hdb)
   have HWR:Hid (Calls Tryz.prog 41 #[.pointer (some ⟨D,0,none⟩),.int .i64 (6+(i:Int)),.slice (some a) 64 vc] wb.drew fun e w'=>e=.returned (.int .i64 0)∧∃v',JS w2 w' L D sb nb g cap l ((q:Int)+1) v' (m'+1) (putS f 5 (zeros 64)) (putS fI (6+i) x.l)∧Upd (Dset D sb nb wv') wb.drew w'∧∀j,j<wb.drew.heap.size→wv'.ownBlock≠some j→v'.ownBlock≠some j):=Lib.hid (by
        obtain⟨hat,h64,hbd⟩:=HI3.out.js.ok x (List.mem_of_getElem? HX.out.1)
        have:=jwrite_is HI3.out.js (k:=6+i) (by omega) h64 hat (by have:=HI3.out.mi;omega) (fun j e q=>by
          have h1:=(hbd j e).1
          have h2:=HI3.out.js.lt.2.2.2.2.2 x (List.mem_of_getElem? HX.out.1) j e
          rcases q with q|q|q|q
          · exact h1 (.inr (.inr (.inl q)))
          · exact h1 (.inr (.inr (.inr (.inl q))))
          · exact h1 (.inr (.inr (.inr (.inr q))))
          · have:=HI3.out.js.wn j q;omega)
        rw[HX.out.2,show ((6+i:Nat):Int)=6+(i:Int) by omega] at this
        exact this)
   have HR3:Hid (Row wb.drew pn 228 #[.int .i64 x.n,.slice (some a) 64 vc]):=Lib.hid HR2.out
   go_still_tail 13,(by kernel_rfl)
   change wpList _ _ _ _ _ wb.drew
   clear hdb c0 c1 e0 e1
   go_upto_region 20 with (go_at_call 41;(with_reducible refine HWR.out.mono ?_);rintro e5 wc ⟨rfl,v',hj5,hu5,hf5⟩;have HZ5:=Lib.hid (And.intro hj5 (And.intro hu5 hf5));clear hj5 hu5 hf5)
   have HI5:Hid (CI w2 wc L D sb nb g cap zb hb l q n (putS f 5 (zeros 64)) i (i+1) (i+1) (m'+1) v' (putS fI (6+i) x.l) lt (.slice pp nn cc)):=Lib.hid (HI3.out.data HX.out.1 (HI3.out.js.ok x (List.mem_of_getElem? HX.out.1)).2.1 HL12.out.1 HZ5.out.1 HZ5.out.2.1 HZ5.out.2.2)
   have HR5:Hid (Row wc pn 228 #[.int .i64 x.n,.slice (some a) 64 vc]):=Lib.hid (HR3.out.upd HZ5.out.2.1 (HI3.out.js.nD (by have:=HPN.out.1;have:=HI3.out.zh;omega) (fun e=>by have:=HPN.out.2 _ e;omega)))
   clear HI1 HI2 HI3 HR1 HR2 HR3 HWR HZ5
   have e0:wc.cell? ⟨pn,0,none⟩=some (.int .i64 x.n):=by rw[HR5.out.cell];rfl
   have e1:wc.cell? ⟨pn,1,none⟩=some (.slice (some a) 64 vc):=by rw[HR5.out.cell];rfl
   have HCL:Hid (Calls Tryz.prog 105 #[.slice (some a) 64 vc] wc.drew fun e w9=>∃a2 k2 w10 p10 c10,e=.returned (.slice a2 64 k2)∧w9.cell? ⟨pn,0,none⟩=some (.int .i64 x.n)∧(w9.alloc (.cells #[.int .i64 x.n,.slice a2 64 k2,.bool false] 256)).cell? ⟨pn,0,none⟩=some (.int .i64 x.n)∧(Builtin.append_ #[254,254] 254 #[.slice pp nn cc,.slice (some ⟨w9.heap.size,0,none⟩) 1 1]).run Tryz.prog (w9.alloc (.cells #[.int .i64 x.n,.slice a2 64 k2,.bool false] 256))=.ok (.slice p10 (nn+1) c10) w10∧Hid (CI w2 w10 L D sb nb g cap zb hb l q n (putS f 5 (zeros 64)) (i+1) (i+1) (i+1) (m'+1) v' (putS fI (6+i) x.l) (lt++[⟨x.n,.slice a2 64 k2,x.l⟩]) (.slice p10 (nn+1) c10))):=Lib.hid (by
        have:=clone_t (HI5.out.keep (Below.refl _ _).drew) rfl HNN.out (by have:=HL12.out;omega) HX.out.1 (pn:=pn) e0 (by rw[HX.out.2];exact e1)
        rw[HX.out.2] at this
        exact this)
   go_region_law (first|(refine step_append_run rfl (.tmp 93) (.tmp 100) 254 rfl hap ?_)|(go_simp;go_at_call 105;refine HCL.out.mono ?_;rintro e9 w9 ⟨a2,k2,w10,p10,c10,rfl,c22,c23,hap,HI9⟩))
   all_goals
    clear c22 c23 hap e0 e1 HCL
    go_wp2_with fail
    go_roundw
    case rel=>exact⟨i+1,m'+1,v',_,_,p10,nn+1,c10,by omega,by go_num,rfl,Lib.hid (by rw[HNN.out];simp),HI9⟩
    case measure=>simp[intOf];omega
  ·obtain rfl:i=n:=by omega
   have HT:Hid (l.take i=l):=Lib.hid (List.take_of_length_le (by have:=HN.out.1;omega))
   have hi12:i≤12:=by have:=HL12.out.1;have:=HN.out.1;omega
   have hni:(i:Int)≤12:=by omega
   have c0:=HI.out.js.c0
   have c1:=HI.out.js.c1
   have hdb:Below wr.heap.size wr wr.drew:=(Below.refl _ _).drew
   have HI3:=Lib.hid (HI.out.keep hdb)
   have hji:¬(i:Int)<i:=by omega
   have HWR:Hid (Calls Tryz.prog 41 #[.pointer (some ⟨D,0,none⟩),.int .i64 (6+(i:Int)),.slice (some ⟨zb,0,none⟩) 64 64] wr.drew fun e w'=>e=.returned (.int .i64 0)∧∃v',JS w2 w' L D sb nb g cap l ((q:Int)+1) v' (m'+1) (putS f 5 (zeros 64)) (putS fI (6+i) (zeros 64))∧Upd (Dset D sb nb wv') wr.drew w'∧∀j,j<wr.drew.heap.size→wv'.ownBlock≠some j→v'.ownBlock≠some j):=Lib.hid (by
        have:=jwrite_is HI3.out.js (k:=6+i) (by omega) (zeros_len 64) (HI3.out.z.at (zeros_len 64)) (by have:=HI3.out.mi;omega) (fun j e=>HI3.out.js.nD (by have e3:zb=j:=Option.some.inj e;have:=HI3.out.zh;omega) (fun e2=>HI3.out.wz.1 (by rw[e2,← e];rfl)))
        rw[show ((6+i:Nat):Int)=6+(i:Int) by omega] at this
        exact this)
   go_upto_region 22 with fail
   go_still_tail 13,(by kernel_rfl)
   change wpList _ _ _ _ _ wr.drew
   clear hdb c0 c1
   go_upto_region 23 with (go_at_call 41;(with_reducible refine HWR.out.mono ?_);rintro e5 wc ⟨rfl,v',hj5,hu5,hf5⟩;have HZ5:=Lib.hid (And.intro hj5 (And.intro hu5 hf5));clear hj5 hu5 hf5)
   have HT5:Hid (CT w2 wc L D sb nb g cap hb l q i (m'+1) v' (putS f 5 (zeros 64)) (putS fI (6+i) (zeros 64)) lt (.slice pp nn cc)):=Lib.hid ((HI3.out.ct HT.out HT.out).wrote HZ5.out.1 HZ5.out.2.1 HZ5.out.2.2)
   have HFI:Hid (fI.length=256*64∧(∀k y,k<i→l[k]?=some y→sect fI (6+k)=y.l)∧∀p,p<256→(p<6∨6+i≤p)→sect fI p=sect (putS f 5 (zeros 64)) p):=Lib.hid ⟨HI3.out.js.dk.lf,HI3.out.dat,HI3.out.off⟩
   have HFL0:Hid (f.length=256*64):=Lib.hid HFLEN.out
   clear HI HI3 HWR HZ5 HFLEN
   obtain⟨f6,hf6⟩:∃f6,f6=putS fI (6+i) (zeros 64):=⟨_,rfl⟩
   rw[← hf6] at HT5
   have HF6:=Lib.hid hf6
   clear hf6
   have c0:=HT5.out.js.c0
   have HFL:=Lib.hid (jflush_is HT5.out.js)
   go_upto_region 24 with (go_at_call 46;refine HFL.out.mono ?_;rintro e6 w6 ⟨rfl,hj6,hu6⟩;have HT6:=Lib.hid (HT5.out.flushed hj6 hu6);clear hj6 hu6)
   clear HFL HT5 c0
   have hal7:=Go.Joins.below_alloc1 w6 (.cells ((zeros 64).map u8V).toArray 5)
   have HT7:=Lib.hid (HT6.out.keep hal7)
   have HH7:=Lib.hid (bk_new w6 (zeros 64))
   obtain⟨tb,htb⟩:∃tb,tb=w6.heap.size:=⟨_,rfl⟩
   rw[← htb] at HH7
   have HTB:Hid (hb<tb∧(Value.slice pp nn cc).ownBlock≠some tb∧∀y∈lt,∀c,y.v≠.slice (some ⟨tb,0,none⟩) 64 c):=Lib.hid (by
        rw[htb]
        refine⟨HT6.out.h.lt,fun e=>absurd (HT6.out.ro.lt _ e).2 (Nat.lt_irrefl _),fun y hy c e=>?_⟩
        obtain⟨q1,b,c',q2,q3,q4,_⟩:=HT6.out.da y hy
        rw[q2] at e
        injection e with e _ _
        injection e with e
        injection e with e
        omega)
   go_upto_region 25 with fail
   rw[← htb]
   clear htb hal7 HT6
   generalize w6.alloc (.cells ((zeros 64).map u8V).toArray 5)=w7 at *
   have d0:w7.cell? ⟨tb,0,none⟩=some (.int .u8 0):=HH7.out.cell (i:=0) (by decide)
   have f0:=HH7.out.fz 0
   have HH8:Hid (BK (w7.setCell ⟨tb,0,none⟩ (.int .u8 67)) tb ((zeros 64).set 0 67)):=Lib.hid (HH7.out.set (by decide) 67)
   have HT8:=Lib.hid (HT7.out.own (Upd.set (S:=fun j=>j=tb) w7 (b:=tb) (i:=0) (.int .u8 67) rfl) HTB.out.1 (by simp[Value.ownBlock]) HTB.out.2.1 HTB.out.2.2)
   go_upto_region 26 with fail
   clear d0 f0 HT7 HH7
   generalize w7.setCell ⟨tb,0,none⟩ (.int .u8 67)=w8 at *
   have c3:w8.cell? ⟨L,3,none⟩=some (.int .u32 ((q:Int)+1)):=HT8.out.js.c3
   have hdr8:Below w8.heap.size w8 w8.drew:=(Below.refl _ _).drew
   have HWD:Hid (∀w,Calls Tryz.prog 132 #[.int .u32 ((q:Int)+1)] w fun e w'=>e=.returned (.slice (some ⟨w.heap.size,0,none⟩) 4 4)∧w'=w.alloc (.cells ((wordL (q+1)).map u8V).toArray 5)):=Lib.hid (fun w=>by have:=word_is w HQ.out;rw[show ((q+1:Nat):Int)=(q:Int)+1 by omega] at this;exact this)
   have HC3:Hid (∀wz,Below w8.heap.size w8 wz→wz.cell? ⟨L,3,none⟩=some (.int .u32 ((q:Int)+1))):=Lib.hid (fun wz hb=>by have:=(HT8.out.keep hb).js.c3;exact this)
   have HCP:Hid (∃w9 w10,w9=w8.drew.alloc (.cells ((wordL (q+1)).map u8V).toArray 5)∧(copyB #[.slice (some ⟨tb,1,none⟩) 63 63,.slice (some ⟨w8.heap.size,0,none⟩) 4 4]).run Tryz.prog w9=.ok (.int .i64 4) w10∧BK w10 tb (splice ((zeros 64).set 0 67) 1 (wordL (q+1)))∧Upd (fun j=>j=tb) w9 w10∧Below w8.heap.size w8 w9):=Lib.hid (by
        have hb9:Below w8.heap.size w8 (w8.drew.alloc (.cells ((wordL (q+1)).map u8V).toArray 5)):=hdr8.alloc (Nat.le_refl _) _
        have hk:=HH8.out.keep hb9
        have hwd:=bk_new w8.drew (wordL (q+1))
        have:=run_copyB (w:=w8.drew.alloc (.cells ((wordL (q+1)).map u8V).toArray 5)) (g:=tb) (o:=1) (dL:=63) (dC:=63) (sL:=4) (sC:=4) (sb:=w8.heap.size) (so:=0) (cs:=wordL (q+1)) hk (by rfl) (fun i hi=>by rw[Nat.zero_add];exact hwd.cell hi) (by simp[zeros_len,wordL])
        exact⟨_,_,rfl,this,hk.setRow _,Upd.setRow _ _ rfl,hb9⟩)
   obtain⟨w9,w10,hw9,hcp,hbk10,hu10,hb9⟩:=HCP.out
   have HW9:=Lib.hid hw9
   have HH10:=Lib.hid hbk10
   have HT10:=Lib.hid ((HT8.out.keep hb9).own hu10 HTB.out.1 (by simp[Value.ownBlock]) HTB.out.2.1 HTB.out.2.2)
   have HC9:=Lib.hid (HC3.out w9 hb9)
   have HC10:Hid (w10.cell? ⟨L,3,none⟩=some (.int .u32 ((q:Int)+1))):=Lib.hid (by have:=HT10.out.js.c3;exact this)
   clear hw9 hbk10 hu10 hb9 HCP
   go_region_held3 (fun wz=>wz.cell? ⟨L,3,none⟩=some (.int .u32 ((q:Int)+1))) (first|(with_reducible exact HC3.out _ (Below.refl _ _))|(with_reducible exact HC3.out _ (Below.refl _ _).drew)|(with_reducible exact HC9.out)|(with_reducible exact HC10.out)|fail) (first|(go_at_call 132;(with_reducible refine(HWD.out _).mono ?_);rintro e9 w9' ⟨rfl,hw9⟩;rw[← HW9.out] at hw9;subst hw9)|fail)
   clear HT8 HH8 HC3 HC9 HC10 HWD hdr8 c3 HW9 hcp
   go_upto_region 27 with fail
   have hdr10:Below w10.heap.size w10 w10.drew:=(Below.refl _ _).drew
   have HSM:=Lib.hid (Sum_is (HT10.out.js.wl HN.out.2.2.1.pos |>.keep hdr10) HN.out.1 hcap HT10.out.js.sr.lm)
   have HSR:=Lib.hid (sumW_range l)
   have HWD:Hid (∀w,Calls Tryz.prog 132 #[.int .u32 (sumW l)] w fun e w'=>e=.returned (.slice (some ⟨w.heap.size,0,none⟩) 4 4)∧w'=w.alloc (.cells ((wordL (sumW l).toNat).map u8V).toArray 5)):=Lib.hid (fun w=>by have:=word_is w (n:=(sumW l).toNat) (by have:=HSR.out;omega);rw[show (((sumW l).toNat:Nat):Int)=sumW l by have:=HSR.out;omega] at this;exact this)
   have HTC:=Lib.hid (fun w11 (hb:Below w10.heap.size w10 w11)=>tail_copy HH10.out hb (sumW l).toNat)
   go_region_held3 (fun _=>True) (trivial) (first|(go_at_call 133;(with_reducible refine HSM.out.mono ?_);rintro e11 w11 ⟨rfl,hb11⟩;obtain⟨w13,hcp,hbk13,hu13⟩:=HTC.out w11 (hdr10.trans (hb11.mono hdr10.size));have HB11:=Lib.hid (hdr10.trans (hb11.mono hdr10.size));have HH13:=Lib.hid hbk13;have HU13:=Lib.hid hu13;clear hb11 hbk13 hu13)|(go_at_call 132;(with_reducible refine(HWD.out _).mono ?_);rintro e12 w12 ⟨rfl,rfl⟩)|fail)
   have HT13:=Lib.hid ((HT10.out.keep (HB11.out.alloc HB11.out.size (.cells ((wordL (sumW l).toNat).map u8V).toArray 5))).own HU13.out HTB.out.1 (by simp[Value.ownBlock]) HTB.out.2.1 HTB.out.2.2)
   have HHT:Hid (BK w13 tb (tailL (q+1) l)):=Lib.hid (by have:=HH13.out;rw[tail0] at this;exact this)
   clear HT10 HH10 HB11 HU13 HH13 HSM HWD HTC hdr10 hcp
   have c0:=HT13.out.js.c0
   have c1:=HT13.out.js.c1
   have hdr13:Below w13.heap.size w13 w13.drew:=(Below.refl _ _).drew
   have HT14:=Lib.hid (HT13.out.keep hdr13)
   have HHT14:=Lib.hid (HHT.out.keep hdr13)
   have hl58:l.length≤58:=by have:=HL12.out.1;omega
   have HWR:=Lib.hid (jwrite_is HT14.out.js (k:=5) (by decide) (headI_len (q+1) i l hl58) (HT14.out.h.at (headI_len (q+1) i l hl58)) (by decide) (fun j e=>HT14.out.js.nD (by have e3:hb=j:=Option.some.inj e;have:=HT14.out.zh;omega) (by simp[Value.ownBlock])))
   go_upto_region 28 with fail
   go_still_tail 9,(by kernel_rfl)
   change wpList _ _ _ _ _ w13.drew
   clear hdr13 c0 c1
   go_upto_region 29 with (go_at_call 41;refine HWR.out.mono ?_;rintro e15 w15 ⟨rfl,v15,hj5,hu5,hf5⟩;have HZ5:=Lib.hid (And.intro hj5 (And.intro hu5 hf5));clear hj5 hu5 hf5)
   have HT15:=Lib.hid (HT14.out.wrote HZ5.out.1 HZ5.out.2.1 HZ5.out.2.2)
   have HHT15:Hid (BK w15 tb (tailL (q+1) l)):=Lib.hid (HHT14.out.upd HZ5.out.2.1 (HT14.out.js.nD (by have:=HT14.out.zh;have:=HTB.out.1;omega) (by simp[Value.ownBlock])))
   have HV15:Hid (v15.ownBlock≠some tb):=Lib.hid (HZ5.out.2.2 tb HHT14.out.lt (by simp[Value.ownBlock]))
   clear HT13 HHT HT14 HHT14 HWR HZ5
   have c0:=HT15.out.js.c0
   have c1:=HT15.out.js.c1
   have hdr15:Below w15.heap.size w15 w15.drew:=(Below.refl _ _).drew
   have HT16:=Lib.hid (HT15.out.keep hdr15)
   have HHT16:=Lib.hid (HHT15.out.keep hdr15)
   have htl:(tailL (q+1) l).length=64:=by simp[tailL,wordL,zeros_len]
   have HWR2:Hid (Calls Tryz.prog 41 #[.pointer (some ⟨D,0,none⟩),.int .i64 (6+(i:Int)),.slice (some ⟨tb,0,none⟩) 64 64] w15.drew fun e w'=>e=.returned (.int .i64 0)∧∃v',JS w2 w' L D sb nb g cap l ((q:Int)+1) v' (0+1+1) f6 (putS (putS f6 5 (headI (q+1) i l)) (6+i) (tailL (q+1) l))∧Upd (Dset D sb nb v15) w15.drew w'∧∀j,j<w15.drew.heap.size→v15.ownBlock≠some j→v'.ownBlock≠some j):=Lib.hid (by
        have:=jwrite_is HT16.out.js (k:=6+i) (by omega) htl (HHT16.out.at htl) (by decide) (fun j e=>HT16.out.js.nD (by have e3:tb=j:=Option.some.inj e;have:=HT16.out.zh;have:=HTB.out.1;omega) (fun e2=>HV15.out (by rw[e2,← e];rfl)))
        rw[show ((6+i:Nat):Int)=6+(i:Int) by omega] at this
        exact this)
   go_still_tail 13,(by kernel_rfl)
   change wpList _ _ _ _ _ w15.drew
   clear hdr15 c0 c1
   go_upto_region 30 with (go_at_call 41;(with_reducible refine HWR2.out.mono ?_);rintro e17 w17 ⟨rfl,v17,hj5,hu5,hf5⟩;have HZ5:=Lib.hid (And.intro hj5 (And.intro hu5 hf5));clear hj5 hu5 hf5)
   have HT17:=Lib.hid (HT16.out.wrote HZ5.out.1 HZ5.out.2.1 HZ5.out.2.2)
   clear HT15 HT16 HHT15 HHT16 HWR2 HZ5 HV15
   obtain⟨f9,hf9⟩:∃f9,f9=putS (putS f6 5 (headI (q+1) i l)) (6+i) (tailL (q+1) l):=⟨_,rfl⟩
   rw[← hf9] at HT17
   have HF9:=Lib.hid (And.intro hf9 htl)
   clear hf9 htl
   have c0:=HT17.out.js.c0
   have HFL:=Lib.hid (jflush_is HT17.out.js)
   go_upto_region 31 with (go_at_call 46;refine HFL.out.mono ?_;rintro e18 w18 ⟨rfl,hj6,hu6⟩;have HT18:=Lib.hid (HT17.out.flushed hj6 hu6);clear hj6 hu6)
   clear HFL HT17 c0
   have c0:=HT18.out.js.c0
   have hltl:lt.length=l.length:=by have:=congrArg List.length HT18.out.pr;simpa using this
   have hne:lt≠[]:=fun e=>by rw[e] at hltl;exact HN.out.2.1 (List.length_eq_zero_iff.1 hltl.symm)
   obtain⟨g',cap',hvv,hgB,hsr⟩:=SR.of_owns (T:=256) (K:=3) (A:=rqA) HT18.out.ro rqA_size rfl hne
   injection hvv with e1 e2 e3
   subst e1 e2 e3
   have hpn:(lt.map fun y=>y.n)=(l.map fun y=>y.n):=by
    have:=congrArg (List.map Prod.fst) HT18.out.pr
    rw[List.map_map,List.map_map] at this
    exact this
   have hwo:WrOk lt:=⟨by rw[hpn];exact HN.out.2.2.1.nd,fun y hy=>by
        have h1:y.n∈l.map fun y=>y.n:=by rw[← hpn];exact List.mem_map.2 ⟨y,hy,rfl⟩
        obtain⟨x,hx,e⟩:=List.mem_map.1 h1
        rw[← e]
        exact HN.out.2.2.1.pos x hx,fun y hy=>by
        obtain⟨q1,b,c,q2,_⟩:=HT18.out.da y hy
        exact⟨_,c,q2⟩,by rw[hltl];exact HN.out.2.2.1.le⟩
   have h64:∀y∈lt,y.l.length=64:=fun y hy=>by
    have h1:(y.n,y.l)∈l.map fun y=>(y.n,y.l):=by rw[← HT18.out.pr];exact List.mem_map.2 ⟨y,hy,rfl⟩
    obtain⟨x,hx,e⟩:=List.mem_map.1 h1
    have e2:x.l=y.l:=congrArg Prod.snd e
    rw[← e2]
    exact(HT18.out.js.ok x hx).2.1
   have hwk:WsOk (fun j=>j=g') w18 lt:=fun y hy=>by
    obtain⟨q1,b,c,q2,q3,q4,q5,q6⟩:=HT18.out.da y hy
    refine⟨q1,h64 y hy,fun j e=>?_⟩
    rw[q2] at e
    have e3:b=j:=Option.some.inj e
    subst e3
    exact⟨fun e=>q5 (by rw[e];rfl),q4⟩
   obtain⟨nn,hnn⟩:∃nn,nn=lt.length:=⟨_,rfl⟩
   have HRN:=Lib.hid (run_is (DW.nil HT18.out.js.dk) hsr hwo hwk hne hnn (by decide))
   rw[← hnn]
   clear hltl hne hsr hpn hwo hwk h64 hnn hgB
   go_wp2_with (go_at_call 134;refine HRN.out.mono ?_;rintro e19 w19 ⟨rfl,hx19,hu19⟩;have HX19:=Lib.hid hx19;have HU19:=Lib.hid hu19;clear hx19 hu19)
   go_ret
   obtain⟨wvf,wcf,l',hsm,hdw,hmap,hblk,hwv⟩:=HX19.out
   obtain⟨n1,⟨n2,n3,n4⟩,n5⟩:=HN.out.2.2.2
   have hf6l:f6.length=256*64:=by rw[HF6.out];exact putS_len HFI.out.1 (by omega) (zeros_len 64)
   have hhl:(headI (q+1) i l).length=64:=headI_len (q+1) i l hl58
   have hf7l:(putS f6 5 (headI (q+1) i l)).length=256*64:=putS_len hf6l (by decide) hhl
   have hin:=HN.out.1
   have hz0:w.heap.size≤w18.heap.size:=Nat.le_trans HB1.out.size (Nat.le_trans HU2.out.size HT18.out.js.up.size)
   have hother:∀p,p<256→p≠5→p≠6+i→sect f9 p=sect fI p:=fun p hp h5 h6=>by
    rw[HF9.out.1,sect_other hf7l (by omega) hp HF9.out.2 h6,sect_other hf6l (by decide) hp hhl h5,HF6.out,sect_other HFI.out.1 (by omega) hp (zeros_len 64) h6]
   refine⟨rfl,HT18.out.js.lg.upd HU19.out (fun e=>?_),⟨wvf,f9,_,wcf,l',hdw,?_,⟨?_,fun k y hy=>?_,?_⟩,fun p hp hr=>?_,rfl,hmap,fun y hy j e=>Nat.le_trans hz0 (hblk y hy j e),fun j e=>?_⟩,?_⟩
   ·rcases e with e|e|e|e
    ·exact n2 e
    ·exact n3 e
    ·exact n4 e
    ·simp[Value.ownBlock] at e
   ·unfold SameW at hsm ⊢
    rw[HT18.out.pr] at hsm
    exact hsm
   ·rw[HF9.out.1,sect_other hf7l (by omega) (by decide) HF9.out.2 (by omega),sect_same hf6l (by decide) hhl]
    show headI (q+1) i l=headI (q+1) l.length l
    rw[hin]
   ·have hk:k<i:=by rw[hin];exact(List.getElem?_eq_some_iff.1 hy).1
    rw[hother (6+k) (by omega) (by omega) (by omega)]
    exact HFI.out.2.1 k y hk hy
   ·rw[HF9.out.1,← hin,sect_same hf7l (by omega) HF9.out.2]
   ·rw[hother p hp (by omega) (by omega),HFI.out.2.2 p hp (by omega),sect_other HFL0.out (by decide) hp (zeros_len 64) (by omega)]
   ·rcases Nat.lt_or_ge j w18.heap.size with q1|q1
    ·have:=hwv j q1 e
     simp[Value.ownBlock] at this
    ·omega
   ·have h1:Upd (fun j=>j=L∨j=D∨j=sb∨j=nb) w w2:=(Upd.below HB1.out).trans (HU2.out.mono (fun j _ e=>e.elim (fun e=>.inr (.inl e)) (fun e=>.inr (.inr (.inl e)))))
    have h2:=h1.trans HT18.out.js.up
    exact h2.trans (HU19.out.mono (fun j _ e=>by
          rcases e with e|e|e|e
          · exact .inr (.inl e)
          · exact .inr (.inr (.inl e))
          · exact .inr (.inr (.inr e))
          · simp[Value.ownBlock] at e))
end
end Go.Proofs.YtfkepfncgdlgoaaGreatDoor
