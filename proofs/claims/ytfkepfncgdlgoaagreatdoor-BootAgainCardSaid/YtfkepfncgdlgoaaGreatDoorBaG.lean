/- The walk of boot.Again: the disk crashes, and a kernel begins upon it. What BootAgain asks of the kernel, behind a Sync and behind a crash. A kernel that begins again upon a disk that has crashed: as a state. No walk here. The walk of the law ringkeep5.BootAgain. -/
import Derived.Test.YtfkepfncgdlgoaaGreatDoorCrA
import Derived.Test.YtfkepfncgdlgoaaGreatDoorSnA
import Derived.Test.YtfkepfncgdlgoaaGreatDoorGaA
import Derived.Test.YtfkepfncgdlgoaaGreatDoorBaB
import Derived.Test.YtfkepfncgdlgoaaGreatDoorFwB
import Derived.Test.YtfkepfncgdlgoaaGreatDoorSnapU
import Derived.Deep.DeepCutAuto
namespace Go.Proofs.YtfkepfncgdlgoaaGreatDoor
open Go.RowKit
open Go.RowKit Go.Maps
set_option linter.unusedVariables false
set_option linter.unusedSimpArgs false
set_option maxRecDepth 100000
set_option maxHeartbeats 8000000
section
variable {w:World} {D sb nb q:Nat} {wv:Value} {s f:List Int} {wc l:List WR} {G:Nat→Nat} {y:Nat→Nd} {bl:Nat→List Int}
theorem again_is (hd:DW w D sb nb wv 256 s f wc)(hm:wc.length≤1000) {kv:Value} {kl:List Bool}(hk:At Value.bool false w kv kl)(hkb:kl≠[]→∀j,kv.ownBlock=some j→¬(j=D∨j=sb∨j=nb)) (H:∀s2,Crashed s s2 wc→sect s2 0=markL∧JOk s2 q l∧FmtG (wrAll s2 l) G y bl)(ho:WrOk l)(h64:∀y∈l,y.l.length=64)(h0:l≠[])(hq:q<4294967296) :
  Calls Tryz.prog 8 #[.pointer (some ⟨D,0,none⟩),kv,.int .i64 1,.int .i64 8,.int .i64 8] w fun e w'=>∃s2 B K P Wh Fi Pr R M so sp c,Crashed s s2 wc∧e=.returned (.tuple #[.pointer (some ⟨K,0,none⟩),.int .i64 0])∧KS w' B K P Wh Fi Pr R M so sp c∧w.heap.size≤B∧(∃B0 F L a b N cap wv' m' nd,c 2=.pointer (some ⟨F,0,none⟩)∧MG w' B0 F D L a b N cap q m' sb nb wv' G y nd s2 (wrAll s2 l)∧M<B0∧F<sp)∧Upd (fun j=>j=D∨j=sb∨j=nb) w w':=by
 have HC:=Lib.hid (crash_is hd hm hk hkb)
 have HH:=Lib.hid H
 have HO:=Lib.hid (And.intro ho (And.intro h64 (And.intro h0 hq)))
 clear hd hm hk hkb H ho h64 h0 hq
 go_enter Tryz.func8,Tryz.ntmps8
 go_upto_region 2 with (go_at_call 19;refine HC.out.mono ?_;rintro e1 w1 ⟨rfl,⟨s2,hd2,hs2⟩,hu1⟩)
 have HU1:=Lib.hid hu1
 have hcr:Crashed s s2 wc:=⟨hd2.ls,hs2⟩
 have HCR:=Lib.hid hcr
 have HS:=Lib.hid (startG_is hd2 (HH.out s2 hcr).1 (HH.out s2 hcr).2.1 HO.out.1 HO.out.2.1 HO.out.2.2.1 HO.out.2.2.2 (by decide) (HH.out s2 hcr).2.2)
 clear hd2 hs2 hcr hu1 HC HH
 go_wp2_with (go_at_call 12;refine HS.out.mono ?_;rintro e2 w2 ⟨K,P,Wh,Fi,Pr,R,M,so,sp,c,rfl,hks,hmg,hu2⟩;have HK:=Lib.hid (And.intro hks (And.intro hmg hu2));clear hks hmg hu2)
 go_ret2
 exact⟨s2,_,K,P,Wh,Fi,Pr,R,M,so,sp,c,HCR.out,rfl,HK.out.1,HU1.out.size,HK.out.2.1,HU1.out.trans HK.out.2.2⟩
end
theorem FileZ.again {w:World} {c:FC} {x x2:FM} {z:List Int} {B q F:Nat} {l l' wc:List WR} {x':FM} {s2:List Int} {nd:Nat→Nd}(hf:FileZ x 53 420 z)(hz:z.length≤100)(hs:SyncT x q x' wc l l')(hc:Crashed x'.s s2 wc)(ha:AgM c x2 F c.D B (q+1) x.G nd (wrAll s2 l))(hnd:∀i,i<32→SameN (nd i) (x.nd i)):FileZ x2 53 420 z:=by
 have hsec:∀p,p<256→(p<5∨37≤p)→fsec x2 p=fsec x p:=fun p hp hr=>by
  have e:fsec x2 p=sect x2.f p:=by unfold fsec;rw[ha.td];rfl
  rw[e,ha.ef]
  exact hs.sec2 hc hp hr
 have e0:x2.nd 0={ x.nd 0 with pv:=(nd 0).pv }:=by rw[ha.en];exact(hnd 0 (by decide)).1
 have e1:x2.nd 1={ x.nd 1 with pv:=(nd 1).pv }:=by rw[ha.en];exact(hnd 1 (by decide)).1
 obtain⟨pv1,hn1⟩:=hf.n1
 have hdk:=hf.dk
 have hbz:blkz z≤2:=by unfold blkz;omega
 refine⟨by rw[e0];exact hf.k,by rw[e0];exact hf.m0,by rw[e0];exact hf.u,by rw[e0];exact hf.g,by rw[e0];exact hf.ps,by rw[e0];exact hf.sz,hf.q0,hf.q1,by rw[hsec 53 (by decide) (by decide)];exact hf.sec,⟨(nd 1).pv,by rw[e1,hn1]⟩,fun j hj=>by rw[hsec _ (by omega) (by omega)];exact hf.dat j hj,fun i h2 hi=>by rw[ha.en];exact(hnd i hi).2 (by rw[hf.nz i h2 hi];rfl),fun k hk=>by rw[ha.eG];exact hf.G k hk,by rw[ha.na];decide,by rw[e0];exact hf.l0,⟨hf.gd.1,fun j hj k hk=>by rw[ha.eG];exact hf.gd.2 j hj k hk⟩,⟨by rw[hsec 0 (by decide) (by decide)];exact hdk.ma,fun i hi=>by rw[hsec _ (by omega) (by omega),ha.eG];exact hdk.fo i hi,by rw[hsec 4 (by decide) (by decide)];exact hdk.qu,fun k hk=>?_,fun k hk=>by rw[ha.eG];exact hdk.gk k hk,fun p s e=>by rw[ha.td] at e;cases e⟩,rfl⟩
 rw[hsec _ (by omega) (by omega),hdk.nd k hk]
 have hB:∀i,i<32→ndB (x2.nd i)=ndB (x.nd i):=fun i hi=>by
  have:x2.nd i={ x.nd i with pv:=(nd i).pv }:=by rw[ha.en];exact(hnd i hi).1
  rw[this]
  rfl
 rw[hB _ (by omega),hB _ (by omega)]
def Stay (s:KSt) (x:FM) (w:World) (s':KSt) (x':FM) (w':World):Prop:=FarT s.tag w.heap.size s'.tag∧(∀j,x'.bs j→x.bs j∨w.heap.size≤j)∧Upd (fun j=>s.tag j≠0∨x.bs j∨w.heap.size≤j) w w'
theorem HelW.stay {B:Nat} {w w':World} {s s':KSt} {x x':FM} {wc:List WR}(h:HelW B w s x wc)(hs:Stay s x w s' x' w'):HelW B w' s' x' wc:=h.ask hs.2.2 hs.1 hs.2.1
theorem Stay.below {s s':KSt} {x x':FM} {w w1 w2:World}(h:Stay s x w s' x' w1)(hb:Below w1.heap.size w1 w2):Stay s x w s' x' w2:=⟨h.1,h.2.1,h.2.2.trans (Upd.below hb)⟩
section
variable {w0 w:World} {k:KC} {s:KSt} {fc:FC} {x:FM} {l:List (Nat×Array Value)} {a:Option Addr} {cap gc cc:Nat}
theorem openZ_ask (h:ED w0 w k s fc x l)(haw:Awake s 1) (q:Who w s 1 0 127 a cap gc cc) {q0:Nat} {z:List Int}(hf:FileZ x q0 420 z)(hh:x.nh<1000∧hcn (x.held 2)<1000)(hf1:∃j,j<8∧s.fd (1*8+j)=0)(hf2:∃k0,k0<32∧(s.fs k0).n=0)(hg1:¬x.bs gc)(hg2:gc≠k.Fi) :
  Calls Tryz.prog 5 #[.pointer (some ⟨k.K,0,none⟩),.int .i64 1,.string ⟨#[102]⟩,.int .i64 0] w fun e w'=>∃j:Nat,e=.returned (.int .i64 j)∧∃k0 rows,ED w0 w' k (OpenTo s 1 3 j k0) fc (heldTo x) rows∧j<8∧k0<32:=by
 obtain⟨pvn,hn1e⟩:=hf.n1
 have hMf:MayIs (x.nd 1) 0 127 a cap 3 true:=may_fileR (by rw[hn1e]) (by rw[hn1e]) (by rw[hn1e]) (by rw[hn1e]) a cap q.hc
 have hMr:MayIs (x.nd 0) 0 127 a cap 4 true:=may_root hf.k hf.m0 hf.u hf.g a cap q.hc (.inl rfl)
 refine opened_is (K:=k.K) (p:=1) (B:=0) (nm:=⟨#[102]⟩) (P:=fun w' j=>∃k0 rows,ED w0 w' k (OpenTo s 1 3 j k0) fc (heldTo x) rows∧j<8∧k0<32) ?_
 refine(h.ask (p:=1) (A:=callO 0 ⟨#[102]⟩) haw rfl (fun ok=>doD_is ok rfl rfl rfl (descO_is ok rfl rfl rfl (specF_D (spec_openZ (A:=callO 0 ⟨#[102]⟩) h.kf q (by decide) hf (C:=420) (by decide) (W:=3) rfl rfl rfl rfl rfl (by decide) hMr hMf hh hf1 hf2 hg1 hg2))))).mono ?_
 rintro e2 w' ⟨s',x',e,a2,b,d,dl,he2,⟨hl,g,he0,j,k0,hj,hk0,hs',hx',hg,ha2⟩,hO,he,hd,hft,hbs,hU⟩
 obtain⟨pd,cd,hdv⟩:=hO.form
 subst he0
 subst hs'
 subst hx'
 subst ha2
 subst hdv
 exact⟨j,b,pd,dl.length,cd,he2,k0,_,he,hj,hk0⟩
theorem FileW.dir {q:Nat} {x':FM} {wc l l':List WR} {z:List Int}(h:FileW x 53 420 z)(hz:z.length≤100)(hs:SyncT x q x' wc l l'):DirG x' 53 (54+blkz z):=by
 have hf:=h.fz
 have hd:=hf.dk
 obtain⟨pv,e1⟩:=hf.n1
 have hb:blkz z≤2:=by unfold blkz;omega
 refine⟨by rw[hs.en];exact hf.k,by rw[hs.en];exact hf.ps,by rw[hs.en];exact hf.sz,by rw[hs.en];exact hf.l0.1,by decide,by decide,by rw[hs.fsec (by decide) (by decide)];exact hf.sec,?_,?_,by rw[hs.en,e1],fun i h1 h2=>by rw[hs.en];exact hf.nz i h1 h2,fun k hk=>by rw[hs.eG];exact⟨(hf.G k hk).1,(hf.G k hk).2,h.gh k hk⟩,fun i j hi hj e=>by rw[hs.eG,hd.gk i hi,hd.gk j hj] at e;omega,by decide,by rw[hs.eG];exact h.fre.le (by omega),by rw[hs.na];decide⟩
 ·rw[hs.en]
  refine⟨by rw[hf.k];decide,by rw[hf.m0];decide,by rw[hf.u];decide,by rw[hf.g];decide,by rw[hf.l0.1];decide,.inl ⟨hf.k,by rw[hf.l0.2];decide⟩,⟨by rw[hf.ps];decide,by rw[hf.ps];decide⟩,16,hf.sz,by decide,by rw[hf.ps];rfl⟩
 ·rw[hs.en,e1]
  refine⟨by simp,by simp,by simp,by simp,by simp,.inr ⟨by simp,rfl⟩,⟨by rw[pts_len];omega,pts_in (by omega)⟩,z.length,rfl,by omega,by rw[pts_len];rfl⟩
theorem openG_ask (h:ED w0 w k s fc x l)(haw:Awake s 1) (q:Who w s 1 0 127 a cap gc cc) {q0 f0:Nat}(hr:DirG x q0 f0)(hm:(x.nd 0).m=493∧(x.nd 0).u=0∧(x.nd 0).g=0)(hh:x.nh<1000∧hcn (x.held 3)<1000)(hf1:∃j,j<8∧s.fd (1*8+j)=0)(hf2:∃k0,k0<32∧(s.fs k0).n=0)(hg1:¬x.bs gc)(hg2:gc≠k.Fi) :
  Calls Tryz.prog 5 #[.pointer (some ⟨k.K,0,none⟩),.int .i64 1,.string ⟨#[103]⟩,.int .i64 1] w fun e w'=>∃j:Nat,e=.returned (.int .i64 j)∧∃k0 x1 r,ED w0 w' k (OpenToG s 1 3 j k0) fc x1 (r::l)∧j<8∧k0<32∧FileG x1 f0 420∧SameD x x1∧Stay s x w (OpenToG s 1 3 j k0) x1 w':=by
 refine opened_is (K:=k.K) (p:=1) (B:=1) (nm:=⟨#[103]⟩) (P:=fun w' j=>∃k0 x1 r,ED w0 w' k (OpenToG s 1 3 j k0) fc x1 (r::l)∧j<8∧k0<32∧FileG x1 f0 420∧SameD x x1∧Stay s x w (OpenToG s 1 3 j k0) x1 w') ?_
 refine(h.ask (p:=1) (A:=callO 1 ⟨#[103]⟩) haw rfl (fun ok=>doD_is ok rfl rfl rfl (descO_is ok rfl rfl rfl (specF_D (spec_openGN (A:=callO 1 ⟨#[103]⟩) h.kf q (by decide) hr (m:=420) (by decide) rfl rfl rfl rfl rfl (may_root hr.k hm.1 hm.2.1 hm.2.2 a cap q.hc (.inl rfl)) (may_root hr.k hm.1 hm.2.1 hm.2.2 a cap q.hc (.inr rfl)) hh hf1 hf2 hg1 hg2))))).mono ?_
 rintro e2 w' ⟨s',x',e,a2,b,d,dl,he2,⟨hl,g,he0,j,k0,hj,hk0,hs',hf,hg,ha2⟩,hO,he,hd,hft,hbs,hU⟩
 obtain⟨pd,cd,hdv⟩:=hO.form
 subst he0
 subst hs'
 subst ha2
 subst hdv
 exact⟨j,b,pd,dl.length,cd,he2,k0,x',_,he,hj,hk0,hf.1,hf.2,Stay.below ⟨hft,hbs,hU⟩ (Go.Joins.below_alloc1 _ _)⟩
theorem putG_ask (h:ED w0 w k s fc x l)(haw:Awake s 1) {f0:Nat}(hf:FileG x f0 420) {j k0:Nat}(hj:j<8)(hd:s.fd (1*8+j)=k0+1)(hF:OpenLaw.thing (s.fs k0)=.agg (thG 0)) {z:List Int} {ad:Option Addr} {L cp:Nat}(hL:L=z.length)(hz:At (Value.int .u8) 0 w (.slice ad L cp) z)(hz2:z.length≤100) :
  Calls Tryz.prog 6 #[.pointer (some ⟨k.K,0,none⟩),.int .i64 1,.int .i64 j,.slice ad L cp] w fun e w'=>e=.returned (.bool true)∧∃s2 x2 rows,ED w0 w' k s2 fc x2 rows∧SameD x x2∧Stay s x w s2 x2 w':=by
 subst hL
 refine put_is (K:=k.K) (p:=1) (fd:=(j:Int)) (P:=fun w'=>∃s2 x2 rows,ED w0 w' k s2 fc x2 rows∧SameD x x2∧Stay s x w s2 x2 w') ?_
 have hs:=spec_writeG (A:=callP j ad z.length cp) h.kf (by decide) (by decide) hf (by decide) hj hd hF rfl rfl rfl rfl hz hz2
 refine(h.ask (p:=1) (A:=callP j ad z.length cp) haw rfl hs).mono ?_
 rintro e2 w' ⟨s',x',e,a2,b,d,dl,he2,⟨he0,ha2,hs',hsd,hh,hn,hl⟩,hO,he,hdd,hft,hbs,hU⟩
 obtain⟨pd,cd,hdv⟩:=hO.form
 subst he0
 subst ha2
 subst hdv
 exact⟨b,pd,dl.length,cd,he2,s',x',_,he,hsd,Stay.below ⟨hft,hbs,hU⟩ (Go.Joins.below_alloc1 _ _)⟩
theorem sync_ask (h:ED w0 w k s fc x l)(haw:Awake s 1)(hd:DOk x)(ht:Told x)(hna:x.na≤1000) :
  Calls Tryz.prog 7 #[.pointer (some ⟨k.K,0,none⟩),.int .i64 1,.agg (callA 25 0 0 0)] w fun e2 w'=>e2=.returned (.agg (ansV 0 0 0 (.slice none 0 0)))∧∃x' wc l1 l2,SyncT x 0 x' wc l1 l2∧HelW w.heap.size (w'.alloc (.cells (ansV 0 0 0 (.slice none 0 0)) 35)) s x' wc∧ED w0 (w'.alloc (.cells (ansV 0 0 0 (.slice none 0 0)) 35)) k s fc x' ((w'.heap.size,ansV 0 0 0 (.slice none 0 0))::l)∧Stay s x w s x' (w'.alloc (.cells (ansV 0 0 0 (.slice none 0 0)) 35)):=by
 refine(h.askS (p:=1) (A:=callA 25 0 0 0) haw rfl (fun ok=>doSy_is ok rfl rfl rfl (named25_is h.kf hd ht hna rfl rfl))).mono ?_
 rintro e2 w' ⟨s',x',wc,he2,⟨hs',l1,l2,hsy,-⟩,hh,he,hft,hbs,hU⟩
 subst hs'
 have al:=Go.Joins.below_alloc1 w' (.cells (ansV 0 0 0 (.slice none 0 0)) 35)
 exact⟨he2,x',wc,l1,l2,hsy,hh.keep al,he,Stay.below ⟨hft,hbs,hU⟩ al⟩
theorem HelW.dw {c:FC} {x0 x1 x2:FM} {q B:Nat} {wc l1 l2:List WR}(h:FSt w c x2)(hs:SyncT x0 q x1 wc l1 l2) (sd:SameD x1 x2)(hh:HelW B w s x2 wc):DW w c.D c.sb c.nb x2.wv 256 x1.s x1.f wc∧wc.length≤1000:=by
 have hd:=h.dk
 have ho:=h.wo
 rw[sd.s,sd.f,sd.wm,hs.wm] at hd
 rw[sd.wm,hs.wm,sd.wx,hs.wx] at ho
 refine⟨⟨hd,ho,fun y hy=>⟨(hh y hy).1,(hh y hy).2.1,fun j e=>⟨fun q=>?_,((hh y hy).2.2 j e).2.1⟩⟩,hs.sc⟩,?_⟩
 ·exact((hh y hy).2.2 j e).2.2.2 (h.bm j (.inr (.inr (.inr (.inr q)))))
 ·have e1:=congrArg List.length hs.wp
  rw[List.length_map,List.length_map] at e1
  have e2:=hs.sm.length_eq
  rw[List.length_map,List.length_map] at e2
  have:=hs.wo.le
  omega
end
theorem at_min100 {w:World} {l:List Int} {a:Option Addr} {n c:Nat}(h:At (Value.int .u8) 0 w (.slice a n c) l):∃z:List Int,z.length≤100∧(if 100<(n:Int) then 100 else (n:Int)).toNat=z.length∧At (Value.int .u8) 0 w (.slice a (if 100<(n:Int) then 100 else (n:Int)).toNat c) z:=by
 have hk:(if 100<(n:Int) then 100 else (n:Int)).toNat≤n∧(if 100<(n:Int) then 100 else (n:Int)).toNat≤100:=by split <;> omega
 generalize (if 100<(n:Int) then 100 else (n:Int)).toNat=k at *
 obtain⟨a',c',e,h1,h2,h3⟩:=h
 injection e with e1 e2 e3
 subst e1 e2 e3
 have hl:(l.take k).length=k:=by rw[List.length_take];omega
 refine⟨l.take k,by omega,hl.symm,_,c,by rw[hl],by rw[hl];omega,h2,?_⟩
 rcases h3 with e|⟨b,o,e,hb,hc⟩
 ·left;rw[e];simp
 ·refine .inr ⟨b,o,e,hb,fun i hi=>?_⟩
  rw[hl] at hi
  rw[hc i (by omega)]
  congr 2
  simp[List.getD,List.getElem?_take,hi]
theorem At.own_lt {α:Type} {f:α→Value} {d:α} {w:World} {v:Value} {l:List α}(h:At f d w v l)(h0:l≠[]) {j:Nat}(hj:v.ownBlock=some j):j<w.heap.size:=by
 obtain⟨a,c,rfl,_,_,h3⟩:=h
 rcases h3 with e|⟨b,o,e,hb,_⟩
 ·exact absurd e h0
 ·subst e
  injection hj with hj
  subst hj
  exact hb
theorem ED.disk {w0 w:World} {k:KC} {s:KSt} {fc:FC} {x:FM} {l:List (Nat×Array Value)}(h:ED w0 w k s fc x l) {j:Nat}(hj:j=fc.D∨j=fc.sb∨j=fc.nb):w0.heap.size≤j∧j<w.heap.size:=by
 have hb:x.bs j:=h.kf.fs.bm j (fDk.mut (by
    rcases hj with e|e|e
    · exact .inl e
    · exact .inr (.inl e)
    · exact .inr (.inr (.inl e))))
 exact⟨h.lb j hb,h.kf.fs.lt j hb⟩
theorem again_ed {w0 w w':World} {k:KC} {s:KSt} {fc:FC} {x0 x1 x2:FM} {rows:List (Nat×Array Value)}(h:ED w0 w k s fc x2 rows) {wx:World}(hx0:FSt wx fc x0) {wc l1 l2:List WR}(hs:SyncT x0 0 x1 wc l1 l2) {z:List Int}(hf:FileZ x0 53 420 z)(hz:z.length≤100) {s2:List Int}(hc:Crashed x1.s s2 wc)
  {B K P Wh Fi Pr R M so sp:Nat} {c:Nat→Value} (hk:KS w' B K P Wh Fi Pr R M so sp c) (hB:w.heap.size≤B) {B0 F L a b N cap m':Nat} {wv':Value} {nd:Nat→Nd} (hc2:c 2=.pointer (some ⟨F,0,none⟩)) (hm:MG w' B0 F fc.D L a b N cap (0+1) m' fc.sb fc.nb wv' x0.G x0.nd nd s2 (wrAll s2 l1)) (hM:M<B0) (hF:F<sp) (hu:Upd (fun j=>j=fc.D∨j=fc.sb∨j=fc.nb) w w') :
  ∃s' c' x' wb,ED w0 w' ⟨K,Wh,Fi,Pr,R,M,so⟩ s' c' x' []∧FileZ x' 53 420 z∧Awake s' 1∧Who w' s' 1 0 127 none 0 wb 1∧¬x'.bs wb∧wb≠Fi∧(∀i,s'.fd i=0)∧(∀i,(s'.fs i).n=0)∧x'.nh=0∧∀n,x'.held n=none:=by
 have dD:=h.disk (j:=fc.D) (.inl rfl)
 have dS:=h.disk (j:=fc.sb) (.inr (.inl rfl))
 have dN:=h.disk (j:=fc.nb) (.inr (.inr rfl))
 have ho:=hk.or
 have hkb:=hk.kp.b
 obtain⟨B1,ho2,-⟩:=hm.1.bd
 have hsn:=ho2.s
 obtain⟨c',x',hst,ham,e1,e2⟩:=hm.1.toFSt hm.2 (by omega) hx0.lone hx0.fr
 obtain⟨tag,Tb,cc,wb,hkt,h63,hlo⟩:=hk.toKT2
 have eD:c'.D=fc.D:=ham.eD
 have hbs:∀j,x'.bs j→(B0≤j∧j≤F)∨j=fc.D∨j=fc.sb∨j=fc.nb:=fun j e=>by
  have:=ham.bs j e
  rw[eD,e1,e2] at this
  exact this
 have hsep:∀j,x'.bs j→tag j=0:=fun j e=>by
  have h1:=hbs j e
  cases Nat.eq_zero_or_pos (tag j) with
  | inl q=>exact q
  | inr q=>
   have h2:=hlo j (by omega)
   omega
 have hKF:KF w' ⟨K,Wh,Fi,Pr,R,M,so⟩ (sS0 c tag Tb cc sp wb) c' x':=⟨hkt,by rw[ham.eF];exact hc2,hst,hsep⟩
 obtain⟨-,hgw,-,hgt⟩:=hkt.cw 1 wb rfl
 have hb0:=h.hb.size
 refine⟨sS0 c tag Tb cc sp wb,c',x',wb,⟨hKF,h.hb.trans (hu.toBelow hb0 (fun j hj e=>by omega)),fun j hj=>?_,fun j hj=>?_,fun _ h=>nomatch h⟩,?_,hk.calm.awake (s:=sS0 c tag Tb cc sp wb) (by decide) (by decide) start1,who1 hk h63 hgw,fun e=>absurd ((hsep _ e).symm.trans hgt) (by decide),fun e=>absurd (hkt.tFi.symm.trans (e ▸ hgt)) (by decide),fun _=>rfl,fun _=>rfl,ham.nh,ham.held⟩
 ·have:=hlo j hj
  omega
 ·have:=hbs j hj
  omega
 ·refine FileZ.again (w:=w') (c:=c') hf hz hs hc (q:=0) (F:=F) (B:=B0) (nd:=nd) ?_ hsn
  rw[eD]
  exact ham
theorem FileZ.heldTo {x:FM} {q:Nat} {m:Int} {z:List Int}(h:FileZ x q m z):FileZ (heldTo x) q m z:=⟨h.k,h.m0,h.u,h.g,h.ps,h.sz,h.q0,h.q1,h.sec,h.n1,h.dat,h.nz,h.G,h.na,h.l0,h.gd,⟨h.dk.ma,h.dk.fo,h.dk.qu,h.dk.nd,h.dk.gk,h.dk.td⟩,h.q53⟩
theorem again_ask {w0 w:World} {k:KC} {s:KSt} {fc:FC} {x0 x1 x2:FM} {rows:List (Nat×Array Value)}(h:ED w0 w k s fc x2 rows) {wx:World}(hx0:FSt wx fc x0) {wc l1 l2:List WR}(hs:SyncT x0 0 x1 wc l1 l2) {z:List Int}(hf:FileZ x0 53 420 z)(hz:z.length≤100) (sd:SameD x1 x2) {B:Nat}(hh:HelW B w s x2 wc) {kv:Value} {kl:List Bool}(hk:At Value.bool false w0 kv kl) :
  Calls Tryz.prog 8 #[.pointer (some ⟨fc.D,0,none⟩),kv,.int .i64 1,.int .i64 8,.int .i64 8] w fun e w'=>∃k' s' c' x' wb,e=.returned (.tuple #[.pointer (some ⟨k'.K,0,none⟩),.int .i64 0])∧ED w0 w' k' s' c' x' []∧FileZ x' 53 420 z∧Awake s' 1∧Who w' s' 1 0 127 none 0 wb 1∧¬x'.bs wb∧wb≠k'.Fi∧(∀i,s'.fd i=0)∧(∀i,(s'.fs i).n=0)∧x'.nh=0∧∀n,x'.held n=none:=by
 obtain⟨hd,hm⟩:=HelW.dw h.kf.fs hs sd hh
 refine(again_is (q:=0+1) hd hm (hk.keep h.hb) (fun h0 j hj e=>?_) (fun s2 hc=>⟨hs.mark hc hf.dk,hs.jo2 hc,hs.fmt hx0 hf hz hc⟩) hs.wo hs.l64 hs.l0 (by decide)).mono ?_
 ·have h1:=hk.own_lt h0 hj
  have h2:=(h.disk e).1
  omega
 ·rintro e w' ⟨s2,B,K,P,Wh,Fi,Pr,R,M,so,sp,c,hc,rfl,hks,hB,⟨B0,F,L,a,b,N,cap,wv',m',nd,hc2,hmg,hM,hF⟩,hu⟩
  obtain⟨s',c',x',wb,q⟩:=again_ed h hx0 hs hf hz hc hks hB hc2 hmg hM hF hu
  exact⟨⟨K,Wh,Fi,Pr,R,M,so⟩,s',c',x',wb,rfl,q⟩
theorem opG_fd (s:KSt) (p j k0:Nat):(OpenToG s p 3 j k0).fd (p*8+j)=k0+1:=by
 show OpenLaw.updN _ (p*8+j) (k0+1) (p*8+j)=_
 rw[OpenLaw.updN_same]
theorem opG_thing (s:KSt) (p j k0:Nat):OpenLaw.thing ((OpenToG s p 3 j k0).fs k0)=.agg (thG 0):=by
 show OpenLaw.thing (OpenLaw.updF _ k0 ⟨1,3,3,false,0,1⟩ k0)=_
 rw[OpenLaw.updF_same]
 rfl
theorem opF_fd (s:KSt) (p j k0:Nat):(OpenTo s p 3 j k0).fd (p*8+j)=k0+1:=by
 show OpenLaw.updN _ (p*8+j) (k0+1) (p*8+j)=_
 rw[OpenLaw.updN_same]
theorem opF_thing (s:KSt) (p j k0:Nat):OpenLaw.thing ((OpenTo s p 3 j k0).fs k0)=.agg (thF 0):=by
 show OpenLaw.thing (OpenLaw.updF _ k0 ⟨1,2,3,false,0,1⟩ k0)=_
 rw[OpenLaw.updF_same]
 rfl
theorem free_ba {s0:KSt} {j k0:Nat} {z:Int}(h1:∀i,s0.fd i=0)(h2:∀i,(s0.fs i).n=0):(∃j2,j2<8∧(SeekTo (OpenTo s0 1 3 j k0) k0 z).fd (1*8+j2)=0)∧(∃k2,k2<32∧((SeekTo (OpenTo s0 1 3 j k0) k0 z).fs k2).n=0):=by
 refine⟨⟨if j=0 then 1 else 0,by split <;> omega,?_⟩,⟨if k0=0 then 1 else 0,by split <;> omega,?_⟩⟩
 ·show OpenLaw.updN s0.fd (1*8+j) (k0+1) (1*8+_)=0
  rw[OpenLaw.updN_other _ _ (by split <;> omega)]
  exact h1 _
 ·show (OpenLaw.updF (OpenLaw.updF s0.fs k0 ⟨1,2,3,false,0,1⟩) k0 _ _).n=0
  rw[OpenLaw.updF_other _ _ (by split <;> omega),OpenLaw.updF_other _ _ (by split <;> omega)]
  exact h2 _
theorem Awake.op {s:KSt} {p q:Nat} {W:Int} {j k0:Nat}(h:Awake s p):Awake (OpenTo s q W j k0) p:=⟨h.p1,h.p16,h.lv,h.sl,h.sg⟩
theorem Awake.sk {s:KSt} {p k0:Nat} {a:Int}(h:Awake s p):Awake (SeekTo s k0 a) p:=⟨h.p1,h.p16,h.lv,h.sl,h.sg⟩
theorem take_200 {z:List Int}(h:z.length≤100):(z.drop 0).take 200=z:=by
 rw[List.drop_zero,List.take_of_length_le (by omega)]
section
attribute [local go_sem ↓] ld_ans st_ans bd_call
theorem bootagain_any (w:World) {v1 v2 kv:Value} {d1 d2:List Int} {kl:List Bool}(hz1:At (Value.int .u8) 0 w v1 d1)(hz2:At (Value.int .u8) 0 w v2 d2)(hkl:At Value.bool false w kv kl) :
  Calls Tryz.prog 3 #[v1,v2,kv] w fun e w'=>e=.returned (.bool true)∧Below w.heap.size w w':=by
 have hb0:=bdc_0
 have HS:=Lib.hid (started2_is w)
 have HKV:=Lib.hid hkl
 obtain⟨ad,cp,rfl,lz,mz,-⟩:=id hz1
 obtain⟨ad2,cp2,rfl,lz2,mz2,-⟩:=id hz2
 obtain⟨z,hz100,hzl,hzA⟩:=at_min100 hz1
 have HZ:=Lib.hid hzA
 have HZL:=Lib.hid (And.intro hz100 hzl)
 clear hzA hz100 hzl
 obtain⟨y,hz100,hzl,hzA⟩:=at_min100 hz2
 have HY:=Lib.hid hzA
 have HYL:=Lib.hid (And.intro hz100 hzl)
 clear hzA hz100 hzl
 have hcm:(cp:Int)≤9223372036854775807:=by unfold maxLen at mz;omega
 have hcm2:(cp2:Int)≤9223372036854775807:=by unfold maxLen at mz2;omega
 obtain⟨L,hL⟩:∃L,L=d1.length:=⟨_,rfl⟩
 obtain⟨L2,hL2⟩:∃L,L=d2.length:=⟨_,rfl⟩
 rw[← hL] at lz HZ HZL ⊢
 rw[← hL2] at lz2 HY HYL ⊢
 clear hL mz hL2 mz2 hz1 hz2 hkl
 go_enter Tryz.func3,Tryz.ntmps3
 go_upto_region 4 with (go_at_call 4;refine HS.out.mono ?_;rintro e1 w1 ⟨K,D,B,P,Wh,Fi,Pr,R,M,so,sp,c,rfl,hks,⟨fk,fx,hc2,rfl,hst,hr,n1,n1q,n2,n3,n4⟩,hB,hbw⟩)
 obtain⟨tag,Tb,cc,wb,hkt,h63,hlo⟩:=hks.toKT2
 have hor:=hks.or
 have hkb:=hks.kp.b
 have hKF:KF w1 ⟨K,Wh,Fi,Pr,R,M,so⟩ (sS0 c tag Tb cc sp wb) fk fx:=⟨hkt,hc2,hst,fun j e=>by
    have h1:=n4 j e
    cases Nat.eq_zero_or_pos (tag j) with
    | inl q=>exact q
    | inr q=>
      have h2:=hlo j (by omega)
      omega⟩
 have HE1:Hid (ED w w1 ⟨K,Wh,Fi,Pr,R,M,so⟩ (sS0 c tag Tb cc sp wb) fk fx []):=Lib.hid ⟨hKF,hbw,fun j hj=>Nat.le_trans hB (hlo j hj).1,fun j e=>(n4 j e).1,fun _ h=>nomatch h⟩
 have HKS:=Lib.hid hks
 obtain⟨-,hgw,-,hgt⟩:=hkt.cw 1 wb rfl
 have HWB:Hid (Who w1 (sS0 c tag Tb cc sp wb) 1 0 127 none 0 wb 1∧¬fx.bs wb∧wb≠Fi∧tag wb=7):=Lib.hid ⟨who1 hks h63 hgw,(fun e=>absurd ((hKF.sep _ e).symm.trans hgt) (by decide)),(fun e=>absurd (hkt.tFi.symm.trans (e ▸ hgt)) (by decide)),hgt⟩
 have HRT:=Lib.hid (And.intro hr (And.intro n1 (And.intro n2 n3)))
 clear hkt hlo hks hB HS hKF hst hr n1 n1q n2 n3 n4 hc2 h63 hor hkb hgw hgt hbw
 obtain⟨k,hkd⟩:∃k:KC,k=⟨K,Wh,Fi,Pr,R,M,so⟩:=⟨_,rfl⟩
 have hkK:k.K=K:=by rw[hkd]
 obtain⟨s0,hs0⟩:∃s0,s0=sS0 c tag Tb cc sp wb:=⟨_,rfl⟩
 have HW:Hid (Who w1 s0 1 0 127 none 0 wb 1∧¬fx.bs wb∧wb≠k.Fi∧s0.cw 1=some wb):=Lib.hid (by rw[hkd,hs0];exact⟨HWB.out.1,HWB.out.2.1,HWB.out.2.2.1,rfl⟩)
 have HA0:Hid (Awake s0 1):=Lib.hid (by rw[hs0];exact HKS.out.calm.awake (s:=sS0 c tag Tb cc sp wb) (by decide) (by decide) start1)
 have HFR:Hid ((∀i,s0.fd i=0)∧(∀i,(s0.fs i).n=0)):=Lib.hid (by rw[hs0];exact⟨fun _=>rfl,fun _=>rfl⟩)
 rw[← hkd,← hs0] at HE1
 clear hkd hs0 HWB HKS
 subst hkK
 go_region
 have hdr:=(Below.refl w1.heap.size w1).drew
 replace HE1:=Lib.hid (HE1.out.keep hdr)
 replace HW:=Lib.hid (And.intro (HW.out.1.keep hdr) HW.out.2)
 clear lz hcm lz2 hcm2 hdr
 generalize w1.drew=w1d at *
 generalize (if 100<(L:Int) then 100 else (L:Int))=mn at *
 generalize mn.toNat=L1 at *
 generalize (if 100<(L2:Int) then 100 else (L2:Int))=mn2 at *
 generalize mn2.toNat=L3 at *
 have HO1:=Lib.hid (openN_ask HE1.out HA0.out HW.out.1 HRT.out.1 (by rw[HRT.out.2.1];decide) ⟨by rw[HRT.out.2.2.1];decide,by rw[HRT.out.2.2.2];decide⟩ ⟨0,by decide,HFR.out.1 _⟩ ⟨0,by decide,HFR.out.2 _⟩ HW.out.2.1 HW.out.2.2.1)
 go_upto_region 6 with (go_at_call 5;refine HO1.out.mono ?_;rintro e2 w2 ⟨j,rfl,k0,x1,rows1,hE,hj,hk0,hf,hnh,hhd,hho⟩;have HE2:=Lib.hid hE;have HF:=Lib.hid hf;have HJ:=Lib.hid (And.intro hj (And.intro hk0 (And.intro hnh hho)));clear hE hf hj hk0 hnh hhd hho)
 clear HO1
 have j0:¬(j:Int)<0:=by omega
 have HPU:=Lib.hid (put_ask HE2.out HA0.out.op HF.out HJ.out.1 (opF_fd s0 1 j k0) (opF_thing s0 1 j k0) HZL.out.2 (HZ.out.keep HE2.out.hb) (by have:=HZL.out.1;omega))
 go_upto_region 8 with (go_at_call 6;refine HPU.out.mono ?_;rintro e3 w3 ⟨rfl,x2,rows2,hE,hfz,hnh,hhd⟩;have HE3:=Lib.hid hE;have HFZ:=Lib.hid hfz;have HH3:=Lib.hid (And.intro hnh hhd);clear hE hfz hnh hhd)
 clear HPU HE2 j0 HE1 HF
 obtain⟨s3,hs3⟩:∃s3,s3=SeekTo (OpenTo s0 1 3 j k0) k0 z.length:=⟨_,rfl⟩
 have HA3:Hid (Awake s3 1):=Lib.hid (by rw[hs3];exact HA0.out.op.sk)
 have H3:Hid (s3.cw 1=some wb∧(∃j2,j2<8∧s3.fd (1*8+j2)=0)∧(∃k2,k2<32∧(s3.fs k2).n=0)):=Lib.hid ⟨by rw[hs3];exact HW.out.2.2.2,by rw[hs3];exact(free_ba HFR.out.1 HFR.out.2).1,by rw[hs3];exact(free_ba HFR.out.1 HFR.out.2).2⟩
 rw[← hs3] at HE3
 have HWQ:Hid (∀wx,wx.cell? ⟨wb,0,none⟩=some (.int .i64 1)→Who wx s3 1 0 127 none 0 wb 1):=Lib.hid (fun wx hg=>by
    have q:=HW.out.1
    subst hs3
    exact⟨q.p16,q.cr,q.wd,q.mt,hg,q.hc,q.c1,q.c2,q.hU,q.hK⟩)
 have HNF:Hid (wb≠k.Fi):=Lib.hid HW.out.2.2.1
 have HND:Hid (x2.nh=1∧x2.held 3=none):=Lib.hid ⟨by rw[HH3.out.1,HJ.out.2.2.1,HRT.out.2.2.1],by rw[HH3.out.2,HJ.out.2.2.2 3 (by decide),HRT.out.2.2.2]⟩
 clear hs3 HW HA0 HFR HRT HH3 HJ
 have HSY:=Lib.hid (sync_ask HE3.out HA3.out HFZ.out.fz.dk HFZ.out.tl (by have:=HFZ.out.fz.na;omega))
 go_upto_region 9 with (go_at_call 7;refine HSY.out.mono ?_;rintro e4 w4 ⟨rfl,x3,wc,la,lb,hsy,hh,hE,-⟩;have hst:=ans_new w4 0 0 0;have HE4:=Lib.hid hE;have HT4:=Lib.hid hsy;have HH4:=Lib.hid hh;clear hE hsy hh)
 clear hst HSY
 have HX0:=Lib.hid HE3.out.kf.fs
 clear HE3
 generalize hX4:ansV 0 0 0 (.slice none 0 0)=X4 at *
 have HX4:Hid (X4[0]?=some (.int .i64 0)):=Lib.hid (by rw[← hX4];rfl)
 clear hX4
 generalize w4.alloc (.cells X4 35)=w5 at *
 generalize w4.heap.size=g9 at *
 have HD5:=Lib.hid (HFZ.out.dir HZL.out.1 HT4.out)
 have hcw5:=HE4.out.kf.kt.cw 1 wb H3.out.1
 have HOG:=Lib.hid (openG_ask HE4.out HA3.out (HWQ.out w5 hcw5.2.1) HD5.out ⟨by rw[HT4.out.en];exact HFZ.out.fz.m0,by rw[HT4.out.en];exact HFZ.out.fz.u,by rw[HT4.out.en];exact HFZ.out.fz.g⟩ ⟨by rw[HT4.out.eh.2,HND.out.1];decide,by rw[HT4.out.eh.1,HND.out.2];decide⟩ H3.out.2.1 H3.out.2.2 (fun e=>absurd ((HE4.out.kf.sep _ e).symm.trans hcw5.2.2.2) (by decide)) HNF.out)
 clear hcw5
 go_upto_region 10 with (go_at_call 5;refine HOG.out.mono ?_;rintro e6 w6 ⟨j2,rfl,k2,x4,r4,hE,hj,hk0,hf,hsd,hsy⟩;have HE6:=Lib.hid hE;have HF6:=Lib.hid hf;have HS6:=Lib.hid hsd;have HH6:=Lib.hid (HH4.out.stay hsy);have HJ6:=Lib.hid hj;clear hE hj hk0 hf hsd hsy)
 clear HOG HD5 HND HNF HWQ H3
 have j2n:¬(j2:Int)<0:=by omega
 have c9:=((HE6.out.rows (g9,X4) (List.mem_cons_of_mem _ (List.mem_cons_self ..))).1.cell 0).trans HX4.out
 have HPG:=Lib.hid (putG_ask HE6.out (show Awake (OpenToG s3 1 3 j2 k2) 1 from⟨HA3.out.p1,HA3.out.p16,HA3.out.lv,HA3.out.sl,HA3.out.sg⟩) HF6.out HJ6.out (opG_fd s3 1 j2 k2) (opG_thing s3 1 j2 k2) HYL.out.2 (HY.out.keep HE6.out.hb) HYL.out.1)
 go_upto_region 12 with (go_at_call 6;refine HPG.out.mono ?_;rintro e7 w7 ⟨rfl,s7,x7,rows7,hE,hsd,hsy⟩;have HE7:=Lib.hid hE;have HS7:=Lib.hid (HS6.out.trans hsd);have HH7:=Lib.hid (HH6.out.stay hsy);clear hE hsd hsy)
 clear HPG HE6 HF6 HS6 HH6 HJ6 HA3 HE4 HH4 HX4 j2n c9
 have HAG:=Lib.hid (again_ask HE7.out HX0.out HT4.out HFZ.out.fz HZL.out.1 HS7.out HH7.out HKV.out)
 go_upto_region 13 with (go_at_call 8;refine HAG.out.mono ?_;rintro e8 w8 ⟨k8,s8,c8,x8,wb8,rfl,hE,hfz,haw,hwho,hnb,hnf,hf1,hf2,hn1,hn2⟩;have HE8:=Lib.hid hE;have HF8:=Lib.hid hfz;have H8:=Lib.hid (And.intro haw (And.intro hwho (And.intro hnb (And.intro hnf (And.intro hf1 (And.intro hf2 (And.intro hn1 hn2)))))));clear hE hfz haw hwho hnb hnf hf1 hf2 hn1 hn2)
 clear HAG HE7 HX0 HT4 HFZ HS7 HH7 HKV
 have HOZ:=Lib.hid (openZ_ask HE8.out H8.out.1 H8.out.2.1 HF8.out ⟨by rw[H8.out.2.2.2.2.2.2.1];decide,by rw[H8.out.2.2.2.2.2.2.2];decide⟩ ⟨0,by decide,H8.out.2.2.2.2.1 _⟩ ⟨0,by decide,H8.out.2.2.2.2.2.1 _⟩ H8.out.2.2.1 H8.out.2.2.2.1)
 go_upto_region 16 with (go_at_call 5;refine HOZ.out.mono ?_;rintro e9 w9 ⟨j3,rfl,k3,rows9,hE,hj,hk0⟩;have HE9:=Lib.hid hE;have HJ9:=Lib.hid hj;clear hE hj hk0)
 clear HOZ HE8
 have HGT:Hid (Calls Tryz.prog 9 #[.pointer (some ⟨k8.K,0,none⟩),.int .i64 1,.int .i64 j3,.int .i64 200] w9 fun e w'=>∃pd m1 cd,e=.returned (.tuple #[.slice pd m1 cd,.int .i64 0])∧OB w9.heap.size w' (.slice pd m1 cd) z∧Below w.heap.size w w'):=Lib.hid ((got_ask HE9.out H8.out.1.op HF8.out.heldTo (by have:=HZL.out.1;omega) HJ9.out (opF_fd s8 1 j3 k3) (opF_thing s8 1 j3 k3) (a0:=0) (n:=200) (by decide) (by decide)).mono (by
    rintro e w' ⟨pd,m1,cd,rfl,ho,rows,hE,-⟩
    rw[take_200 HZL.out.1] at ho
    exact⟨pd,m1,cd,rfl,ho,hE.hb⟩))
 go_upto_region 17 with (go_at_call 9;refine HGT.out.mono ?_;rintro e10 w10 ⟨pd,m1,cd,rfl,ho,hb⟩;have HO10:=Lib.hid ho;have HB10:=Lib.hid hb;clear ho hb)
 clear HGT HE9 HJ9 H8 HF8
 have j3n:(0:Int)≤j3:=by omega
 have HEQ:=Lib.hid (equalB_is (l:=z) (by have:=HZL.out.1;omega) HO10.out.at (HZ.out.keep HB10.out))
 clear HO10 HZ HZL HY HYL
 go_wp2_with (go_at_call 10;(refine HEQ.out.mono ?_);rintro e11 w11 ⟨rfl,hb11⟩)
 go_ret
 exact⟨rfl,HB10.out.trans (hb11.mono HB10.out.size)⟩
end
end Go.Proofs.YtfkepfncgdlgoaaGreatDoor
