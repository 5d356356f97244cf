/- The walk of journal's Open at a journal that tells some writes: they are done again. The walks of extent.Points and Unpack at one run of sectors. The walk of inode.Unpack at any right node's bytes. Printed by gen_unpg.py. -/
import Derived.Test.YtfkepfncgdlgoaaGreatDoorScA
import Derived.Test.YtfkepfncgdlgoaaGreatDoorFsO
import Derived.Test.YtfkepfncgdlgoaaGreatDoorFsR
import Derived.Test.YtfkepfncgdlgoaaGreatDoorUnpk
import Derived.Deep.RegionHeld3
namespace Go.Proofs.YtfkepfncgdlgoaaGreatDoor
open Go.RowKit Go.Maps
open Go.RowKit
set_option linter.unusedVariables false
set_option linter.unusedSimpArgs false
set_option maxRecDepth 100000
set_option maxHeartbeats 8000000
theorem wrAll_congr {l l2:List WR}(h:(l2.map fun y=>(y.n,y.l))=(l.map fun y=>(y.n,y.l))) (f:List Int):wrAll f l2=wrAll f l:=by
 have e:∀(l:List WR) (f:List Int),wrAll f l=(l.map fun y=>(y.n,y.l)).foldl (fun f y=>putS f y.1 y.2) f:=fun l f=>by
  unfold wrAll
  rw[List.foldl_map]
 rw[e,e,h]
section
variable {w:World} {D sb nb m:Nat} {wv:Value} {s f:List Int}
theorem jopen2_is (h:Dk w D sb nb (.slice none 0 0) m 256 s f) {q:Nat} {l:List WR}(hj:JOk f q l)(ho:WrOk l)(h64:∀y∈l,y.l.length=64)(h0:l≠[])(hq:q<4294967296)(hm:m≤1000):Calls Tryz.prog 48 #[.pointer (some ⟨D,0,none⟩),.int .i64 5,.int .i64 32] w fun e w'=>∃L,e=.returned (.tuple #[.pointer (some ⟨L,0,none⟩),.int .i64 0])∧w.heap.size≤L∧LogR w' L D q∧(∃wv' m',Dk w' D sb nb wv' m' 256 s (wrAll f l)∧(∀j,wv'.ownBlock=some j→w.heap.size≤j∧j≠L)∧m'≤2000)∧Upd (fun j=>j=D∨j=sb∨j=nb) w w':=by
 obtain⟨n,hn⟩:∃n,n=l.length:=⟨_,rfl⟩
 have HSC:=Lib.hid (scan2_is h hj ho h64 h0 hq hn)
 have HSZ:Hid (∀w',Below w.heap.size w w'→Calls Tryz.prog 40 #[.pointer (some ⟨D,0,none⟩)] w' fun e w''=>e=.returned (.int .i64 256)∧w''=w'):=Lib.hid (fun w' hb=>(size_is (h.keep hb)).mono (fun e w' h=>⟨h.1,h.2.symm⟩))
 have HH:=Lib.hid h
 have HO:=Lib.hid (And.intro ho (And.intro h64 (And.intro hn hm)))
 have H0:=Lib.hid h0
 have hn12:n≤12:=by have:=ho.le;omega
 have hni:(n:Int)≤12:=by omega
 clear h hj ho h64 h0 hq hn hm
 go_enter Tryz.func48,Tryz.ntmps48
 go_upto_region 4 with (go_at_call 109;refine HSC.out.mono ?_;rintro e1 w1 ⟨g,cap,l2,rfl,hsi,hb1⟩)
 have hl2:l2.length=n:=by
  have:=congrArg List.length hsi.pr
  simp only[List.length_map,List.length_take] at this
  have:=HO.out.2.2.1
  omega
 have hT:l.take n=l:=List.take_of_length_le (by have:=HO.out.2.2.1;omega)
 have hpr:=hsi.pr
 rw[hT] at hpr
 have HPR:=Lib.hid hpr
 have hinf:∀y∈l2,(y.n<256∧(y.n<5∨37≤y.n))∧y.l.length=64:=fun y hy=>by
  have h1:(y.n,y.l)∈l.map fun y=>(y.n,y.l):=by rw[← hpr];exact List.mem_map.2 ⟨y,hy,rfl⟩
  obtain⟨x,hx,e⟩:=List.mem_map.1 h1
  have e1:x.n=y.n:=congrArg Prod.fst e
  have e2:x.l=y.l:=congrArg Prod.snd e
  exact⟨by rw[← e1];exact HO.out.1.pos x hx,by rw[← e2];exact HO.out.2.1 x hx⟩
 have HIN:=Lib.hid hinf
 have HL2:=Lib.hid hl2
 by_cases hne:l2=[]
 ·exact absurd (List.length_eq_zero_iff.1 (by have:=HO.out.2.2.1;rw[hne] at hl2;simp at hl2;omega)) H0.out
 obtain⟨g',cap',hvv,hgB,hsr⟩:=SR.of_owns (T:=228) (K:=2) (A:=wrA) hsi.ro wrA_size rfl hne
 injection hvv with e1 e2 e3
 injection e1 with e1
 injection e1 with e1
 subst e1 e3
 have hcap:n≤cap:=by have:=hsr.le;omega
 have HSR:=Lib.hid hsr
 have HSI:=Lib.hid hsi
 have HB1:=Lib.hid hb1
 have HGB:=Lib.hid hgB
 clear hl2 hT hpr hinf hne hsr hsi hb1 hgB e2 HSC
 go_wp2_with fail
 go_loopw [31] (fun iv wr=>∃i:Nat,i≤n∧iv=.int .i64 i∧Hid (Below w1.heap.size w1 wr)) (fun iv _=>n-(intOf iv).toNat)
 case atStart=>exact⟨0,by omega,by simp,Lib.hid (Below.refl _ _)⟩
 case round=>
  obtain⟨i,hi,rfl,HB⟩:=hrel
  by_cases hlt:i<n
  ·have hji:(i:Int)<n:=by omega
   obtain⟨x,hx⟩:∃x,l2[i]?=some x:=⟨_,List.getElem?_eq_getElem (by have:=HL2.out;omega)⟩
   have hxm:=List.mem_of_getElem? hx
   have hW:=HSR.out.keep HB.out
   have kk0:=hW.cell hx (j:=0) (by decide)
   have kk1:=hW.cell hx (j:=1) (by decide)
   obtain⟨⟨hx256,hx5⟩,hx64⟩:=HIN.out x hxm
   obtain⟨_,vb,vc,hve,_⟩:=HSI.out.da x hxm
   have k0:wr.cell? ⟨g,i*2,none⟩=some (.int .i64 x.n):=kk0
   have k1:wr.cell? ⟨g,i*2+1,none⟩=some (.slice (some ⟨vb,0,none⟩) 64 vc):=by rw[kk1];show some x.v=_;rw[hve]
   generalize x.n=xn at *
   have HB1':=Lib.hid (HB.out.trans ((Go.Joins.below_alloc1 wr (.cells #[.int .i64 xn,.slice (some ⟨vb,0,none⟩) 64 vc] 228)).mono HB.out.size))
   have hr:=row_new wr 228 #[.int .i64 xn,.slice (some ⟨vb,0,none⟩) 64 vc]
   have d0:(wr.alloc (.cells #[.int .i64 xn,.slice (some ⟨vb,0,none⟩) 64 vc] 228)).cell? ⟨wr.heap.size,0,none⟩=some (.int .i64 xn):=by rw[hr.cell];rfl
   obtain⟨pn,hpn⟩:∃pn,pn=wr.heap.size:=⟨_,rfl⟩
   rw[← hpn] at d0
   have t1:decide ((256:Int)≤(xn:Int))=false:=decide_eq_false (by omega)
   have t1':¬(256:Int)≤(xn:Int):=by omega
   clear hx hxm hW kk0 kk1 hve hr hx256 hx64
   go_upto_region 8 with fail
   rw[← hpn]
   clear hpn k0 k1
   generalize wr.alloc (.cells #[.int .i64 xn,.slice (some ⟨vb,0,none⟩) 64 vc] 228)=w2 at *
   have HBB:Hid (Below w.heap.size w w2):=Lib.hid (HB1.out.trans (HB1'.out.mono HB1.out.size))
   rcases hx5 with h5|h5
   ·have t2:decide ((5:Int)≤(xn:Int))=false:=decide_eq_false (by omega)
    have t2':¬(5:Int)≤(xn:Int):=by omega
    clear h5
    go_quiet (first|(go_at_call 40;(with_reducible refine Calls.quiet_of_same (HSZ.out _ HBB.out)))|(go_at_call 40;(with_reducible refine Calls.quiet_of_same (HSZ.out _ (below_drewN HBB.out _)))))
    have HB2:=Lib.hid (below_drewN HB1'.out nq)
    clear d0 HB1' HBB
    generalize w2.drewN nq=w3 at *
    go_wp2_with fail
    go_roundw
    case rel=>exact⟨i+1,by omega,by go_num,HB2⟩
    case measure=>simp[intOf];omega
   ·have t2:decide ((5:Int)≤(xn:Int))=true:=decide_eq_true (by omega)
    have t2':(5:Int)≤(xn:Int):=by omega
    have t3:decide ((xn:Int)<37)=false:=decide_eq_false (by omega)
    have t3':¬(xn:Int)<37:=by omega
    clear h5
    go_quiet (first|(go_at_call 40;(with_reducible refine Calls.quiet_of_same (HSZ.out _ HBB.out)))|(go_at_call 40;(with_reducible refine Calls.quiet_of_same (HSZ.out _ (below_drewN HBB.out _)))))
    have HB2:=Lib.hid (below_drewN HB1'.out nq)
    clear d0 HB1' HBB
    generalize w2.drewN nq=w3 at *
    go_wp2_with fail
    go_roundw
    case rel=>exact⟨i+1,by omega,by go_num,HB2⟩
    case measure=>simp[intOf];omega
  ·obtain rfl:i=n:=by omega
   have HD0:=Lib.hid (HH.out.keep (HB1.out.trans (HB.out.mono HB1.out.size)))
   obtain⟨wz,rfl⟩:∃y:World,y=wr:=⟨_,rfl⟩
   clear HSZ
   have hji:¬(i:Int)<i:=by omega
   go_wp2_with fail
   go_loopw [57] (fun iv wr=>∃(k:Nat) (wv':Value),k≤i∧iv=.int .i64 k∧Hid (Dk wr D sb nb wv' (m+k) 256 s (wrAll f (l2.take k)))∧Hid (∀j,wv'.ownBlock=some j→wz.heap.size≤j)∧Hid (Upd (fun j=>j=D∨j=sb∨j=nb) wz wr)) (fun iv _=>i-(intOf iv).toNat)
   case atStart=>exact⟨0,.slice none 0 0,by omega,by simp,HD0,Lib.hid (fun j e=>by cases e),Lib.hid (Upd.refl _ _)⟩
   case round=>
    obtain⟨k,wv',hk,rfl,HD,HWV,HU⟩:=hrel
    by_cases hlt2:k<i
    ·have hki:(k:Int)<i:=by omega
     obtain⟨x,hx⟩:∃x,l2[k]?=some x:=⟨_,List.getElem?_eq_getElem (by have:=HL2.out;omega)⟩
     have hxm:=List.mem_of_getElem? hx
     have hDlt:D<w.heap.size∧sb<w.heap.size∧nb<w.heap.size:=⟨HH.out.lt,HH.out.sB.lt,HH.out.nB.lt⟩
     have hz1:=HB1.out.size
     have hz2:=HB.out.size
     have hz3:=HU.out.size
     have hgl:=HSR.out.lt
     have hW:=(HSR.out.keep HB.out).upd HU.out (fun e=>by have:=HGB.out;omega)
     have kk0:=hW.cell hx (j:=0) (by decide)
     have kk1:=hW.cell hx (j:=1) (by decide)
     obtain⟨⟨hx256,hx5⟩,hx64⟩:=HIN.out x hxm
     obtain⟨hatx,vb,vc,hve,hvb1,hvb2,hvb3⟩:=HSI.out.da x hxm
     have hat2:=(hatx.keep HB.out).updW HU.out (fun j e q=>by rw[hve] at e;have e3:vb=j:=Option.some.inj e;omega)
     have k0:wr.cell? ⟨g,k*2,none⟩=some (.int .i64 x.n):=kk0
     have k1:wr.cell? ⟨g,k*2+1,none⟩=some (.slice (some ⟨vb,0,none⟩) 64 vc):=by rw[kk1];show some x.v=_;rw[hve]
     rw[hve] at hat2
     have hal:=Go.Joins.below_alloc1 wr (.cells #[.int .i64 x.n,.slice (some ⟨vb,0,none⟩) 64 vc] 228)
     have hr:=row_new wr 228 #[.int .i64 x.n,.slice (some ⟨vb,0,none⟩) 64 vc]
     have d0:(wr.alloc (.cells #[.int .i64 x.n,.slice (some ⟨vb,0,none⟩) 64 vc] 228)).cell? ⟨wr.heap.size,0,none⟩=some (.int .i64 x.n):=by rw[hr.cell];rfl
     have d1:(wr.alloc (.cells #[.int .i64 x.n,.slice (some ⟨vb,0,none⟩) 64 vc] 228)).cell? ⟨wr.heap.size,1,none⟩=some (.slice (some ⟨vb,0,none⟩) 64 vc):=by rw[hr.cell];rfl
     have HWR:=Lib.hid (write_is (HD.out.keep hal) hx256 hx64 (hat2.keep hal) (by have:=HO.out.2.2.2;omega) (fun a' n' c' e q=>by
            injection e with e1 e2 e3
            injection e1 with e1
            subst e1
            rcases q with q|q|q|q
            · have q:vb=D:=q;omega
            · have q:vb=sb:=q;omega
            · have q:vb=nb:=q;omega
            · have q9:wz.heap.size≤vb:=HWV.out _ q;omega))
     have HX:=Lib.hid hx
     have HAL:Hid (Upd (fun j=>j=D∨j=sb∨j=nb) wz (wr.alloc (.cells #[.int .i64 x.n,.slice (some ⟨vb,0,none⟩) 64 vc] 228))∧wz.heap.size≤wr.heap.size∧wr.heap.size≤(wr.alloc (.cells #[.int .i64 x.n,.slice (some ⟨vb,0,none⟩) 64 vc] 228)).heap.size):=Lib.hid ⟨HU.out.trans (Upd.below hal),hz3,hal.size⟩
     clear hx hxm hDlt hz1 hz2 hz3 hgl hW kk0 kk1 hx64 hx5 hatx hve hvb1 hvb2 hvb3 hat2 hal hr
     go_wp2_with (go_at_call 41;(with_reducible refine HWR.out.mono ?_);rintro e5 w5 ⟨rfl,v',hdw,hu5,hfr⟩;have HZ:=Lib.hid (And.intro hdw (And.intro hu5 hfr));clear hdw hu5 hfr)
     go_roundw
     case rel=>
      obtain⟨hdw,hu5,hfr⟩:=HZ.out
      refine⟨k+1,v',by omega,by go_num,Lib.hid ?_,Lib.hid (fun j e=>?_),Lib.hid ?_⟩
      ·rw[wrAll_next f l2 HX.out];exact hdw
      ·rcases hfr with q|⟨g9,q,q2⟩
       ·rw[q] at e;exact HWV.out j e
       ·rw[q2] at e
        have e3:g9=j:=Option.some.inj e
        have:=HAL.out.2
        omega
      ·exact HAL.out.1.trans' hu5 (fun j hj q=>by
                rcases q with q|q|q|q
                · exact .inl q
                · exact .inr (.inl q)
                · exact .inr (.inr q)
                · have:=HWV.out j q;omega)
     case measure=>simp[intOf];omega
    ·obtain rfl:k=i:=by omega
     have hT:l2.take k=l2:=List.take_of_length_le (by have:=HL2.out;omega)
     have HT:=Lib.hid hT
     clear hT
     go_wp2_with fail
     go_ret2
     have h1:=HD.out
     rw[HT.out,wrAll_congr HPR.out] at h1
     have hz1:=HB1.out.size
     have hz2:=HB.out.size
     have hz3:=HU.out.size
     have hal:=Go.Joins.below_alloc1 wr (.cells #[.pointer (some ⟨D,0,none⟩),.int .i64 5,.int .i64 32,.int .u32 q] 230)
     refine⟨wr.heap.size,rfl,by omega,row_new wr _ _,⟨wv',m+k,h1.keep hal,fun j e=>⟨by have:=HWV.out j e;omega,?_⟩,by have:=HO.out.2.2.2;omega⟩,?_⟩
     ·obtain⟨xs,hown⟩:=h1.own
      have:=(hown.lt j e).2
      omega
     ·exact(((Upd.below HB1.out).trans (Upd.below HB.out)).trans HU.out).trans (Upd.below hal)
end
def runP (a:Int) (n:Nat):List Int:=(List.range n).map fun (j:Nat)=>a+(j:Int)
theorem runP_len (a:Int) (n:Nat):(runP a n).length=n:=by simp[runP]
theorem runP_next (a:Int) (n:Nat):runP a (n+1)=runP a n++[a+(n:Int)]:=by
 unfold runP
 rw[List.range_succ,List.map_append]
 rfl
section
variable {w:World}
attribute [local go_sem ↓] apI8_eq
theorem xpoints1_is {g cap:Nat} {a:Int} {n:Nat}(h0:w.cell? ⟨g,0,none⟩=some (.int .i64 a))(h1:w.cell? ⟨g,1,none⟩=some (.int .i64 n))(hg:g<w.heap.size)(hc:1≤cap∧cap≤maxLen)(ha:1≤a∧a+n≤256)(hn:1≤n∧n≤8) :
  Calls Tryz.prog 255 #[.slice (some ⟨g,0,none⟩) 1 cap] w fun e w'=>∃p c,e=.returned (.tuple #[.slice p n c,.int .i64 0])∧w'.ownsRow w.heap.size 3 1 (.slice p n c) n ((runP a n).map i64V)∧Below w.heap.size w w':=by
 have hcm:(cap:Int)≤9223372036854775807:=by have:=hc.2;unfold maxLen at this;omega
 have hc1:(1:Int)≤cap:=by omega
 have hal:=Go.Joins.below_alloc1 w (.cells #[.int .i64 a,.int .i64 n] 315)
 have hr:=row_new w 315 #[.int .i64 a,.int .i64 n]
 have HB0:=Lib.hid hal
 have HR0:=Lib.hid hr
 have t0:¬a<0:=by omega
 have t1:¬(256:Int)≤a:=by omega
 have t2:¬(n:Int)<1:=by omega
 have t3:¬(8:Int)<n:=by omega
 have t4:(0:Int)<a:=by omega
 have t5:¬(256:Int)<a+n:=by omega
 have t6:¬a=0:=by omega
 have d0:(w.alloc (.cells #[.int .i64 a,.int .i64 n] 315)).cell? ⟨w.heap.size,0,none⟩=some (.int .i64 a):=by rw[hr.cell];rfl
 have d1:(w.alloc (.cells #[.int .i64 a,.int .i64 n] 315)).cell? ⟨w.heap.size,1,none⟩=some (.int .i64 n):=by rw[hr.cell];rfl
 have y1:IntKind.i64.wrap (a+n)=a+n:=IntWalk.i64_in _ (by omega)
 obtain⟨pn,hpn⟩:∃pn,pn=w.heap.size:=⟨_,rfl⟩
 rw[← hpn] at d0 d1 HR0
 have HPN:=Lib.hid hpn
 clear hal hr hg hc
 go_enter Tryz.func255,Tryz.ntmps255
 go_wp2_with fail
 refine wp_loop_rounds 2 ?_
 rw[rounds_succ]
 go_upto_region 5 with fail
 rw[← hpn]
 clear hpn
 generalize w.alloc (.cells #[.int .i64 a,.int .i64 n] 315)=w1 at *
 go_wp2_with fail
 go_loopw [4,47] (fun tv iv wr=>∃(j:Nat) (p:Option Addr) (c:Nat),j≤n∧iv=.int .i64 j∧tv=.slice p j c∧Hid (wr.ownsRow w1.heap.size 3 1 (.slice p j c) j ((runP a j).map i64V))∧Hid (Below w1.heap.size w1 wr)) (fun _ iv _=>n-(intOf iv).toNat)
 case atStart=>exact⟨0,none,0,by omega,by simp,rfl,Lib.hid (World.ownsRow_nil _ _ _ _),Lib.hid (Below.refl _ _)⟩
 case round=>
  obtain⟨j,p,c,hj,rfl,rfl,HO,HB⟩:=hrel
  have e0:wr.cell? ⟨pn,0,none⟩=some (.int .i64 a):=by rw[(HR0.out.keep HB.out).cell];rfl
  have e1:wr.cell? ⟨pn,1,none⟩=some (.int .i64 n):=by rw[(HR0.out.keep HB.out).cell];rfl
  by_cases hlt:j<n
  ·have hji:(j:Int)<n:=by omega
   have y2:IntKind.i64.wrap (a+(j:Int))=a+j:=IntWalk.i64_in _ (by omega)
   obtain⟨v2,w2,hap,ho2,hg2,hb2⟩:=apI_push (v:=.slice p j c) (l:=runP a j) (by rw[runP_len];exact HO.out) HB.out.size (a+(j:Int)) (by rw[runP_len];omega)
   rw[← runP_next,runP_len] at ho2
   obtain⟨p2,c2,rfl⟩:=own_form ho2
   have HO2:=Lib.hid (And.intro ho2 (HB.out.trans hb2))
   clear ho2 hg2 hb2
   go_wp2_with fail
   go_roundw
   case rel=>exact⟨j+1,p2,c2,by omega,by go_num,rfl,Lib.hid HO2.out.1,Lib.hid HO2.out.2⟩
   case measure=>simp[intOf];omega
  ·obtain rfl:j=n:=by omega
   have hji:¬(j:Int)<j:=by omega
   go_wp2_with fail
   rw[rounds_succ]
   go_wp2_with fail
   go_ret2
   exact⟨p,c,rfl,owns_base HO.out HB0.out.size,HB0.out.trans (HB.out.mono HB0.out.size)⟩
end
def bstr (l:List Int):ByteArray:=⟨(l.map fun x=>UInt8.ofNat x.toNat).toArray⟩
theorem convL {w:World} {a:Option Addr} {n cap:Nat} {l:List Int}(h:At (Value.int .u8) 0 w (.slice a n cap) l)(hn:l.length=n)(h0:l≠[])(hb:∀x∈l,0≤x∧x<256):(convert 22 9 (.slice a n cap)).run Tryz.prog w=.ok (.string (bstr l)) w:=by
 rcases At.cellB h with e|⟨b,o,rfl,-,hc⟩
 ·exact absurd e h0
 ·subst hn
  have:=run_convert_bytes_back (P:=Tryz.prog) w 22 9 5 ⟨b,o,none⟩ cap (l.map fun x=>UInt8.ofNat x.toNat) Tryz.underlying22 Tryz.underlying5 Tryz.underlying9 (fun j hj=>by
      have hj':j<l.length:=by simpa using hj
      rw[Addr.add_lit,hc j hj']
      have hx:=hb _ (List.getElem_mem hj')
      rw[List.getElem_map,List.getD,List.getElem?_eq_getElem hj',Option.getD_some]
      congr 2
      rw[UInt8.toNat_ofNat']
      omega)
  rw[List.length_map] at this
  exact this
section
variable {w:World}
attribute [local go_sem ↓] appX_eq
theorem xunpackR_is {v:Value} {z:List Int} {a:Int} {n:Nat}(hv:At (Value.int .u8) 0 w v z)(hz:z=a::(n:Int)::zeros 14)(hpk:pk16 (runP a n)=z)(ha:1≤a∧a+n≤256)(hn:1≤n∧n≤8) :
  Calls Tryz.prog 191 #[v] w fun e w'=>∃p c,e=.returned (.tuple #[.slice p n c,.int .i64 0])∧w'.ownsRow w.heap.size 3 1 (.slice p n c) n ((runP a n).map i64V)∧Below w.heap.size w w':=by
 have hat:=hv
 have hzl:z.length=16:=by rw[hz];simp[zeros_len]
 have hzb:∀x∈z,0≤x∧x<256:=fun x hx=>by
  rw[hz] at hx
  rcases List.mem_cons.1 hx with e|hx
  ·omega
  ·rcases List.mem_cons.1 hx with e|hx
   ·omega
   ·have:=(List.mem_replicate.1 hx).2;omega
 have hz0:z≠[]:=fun e=>by rw[e] at hzl;cases hzl
 obtain⟨va,cap,rfl,hl,hcm,-⟩:=hv
 rw[hzl] at hl hat ⊢
 rcases At.cellB hat with e|⟨b,o,rfl,hlt,hc⟩
 ·exact absurd e hz0
 have c0:w.drew.cell? ⟨b,o,none⟩=some (.int .u8 a):=by have:=hc 0 (by omega);rw[hz] at this;exact this
 have c1:w.cell? ⟨b,o+1,none⟩=some (.int .u8 n):=by have:=hc 1 (by omega);rw[hz] at this;exact this
 have c1':w.drew.cell? ⟨b,o+1,none⟩=some (.int .u8 n):=c1
 have c3:w.cell? ⟨b,o+3,none⟩=some (.int .u8 0):=by have:=hc 3 (by omega);rw[hz] at this;exact this
 obtain⟨p1,k1,w2,hap,hx2,hb2⟩:=(XL.nil w.heap.size w.drew).push (Nat.le_refl _) a n (by decide)
 obtain⟨g,cp,C,hv5,hg0,hlc,hcx,hr,hs,ht⟩:=hx2.opn (by simp)
 obtain⟨e0,e1⟩:=XL.cell hr ht (i:=0) (x:=(a,(n:Int))) rfl
 injection hv5 with q1 q2 q3
 subst q1 q3
 have hw2:Below w.heap.size w w2:=(Below.refl w.heap.size w).drew.trans hb2
 have c3':w2.cell? ⟨b,o+3,none⟩=some (.int .u8 0):=(hw2.cell (p:=⟨b,o+3,none⟩) hlt).trans c3
 have HP:=Lib.hid (xpoints1_is e0 e1 hr.lt ⟨hlc,hcx⟩ ha hn)
 have HAT:=Lib.hid (hat.keep hw2)
 have HW2:=Lib.hid hw2
 have hn0:¬(n:Int)=0:=by omega
 have hn0':(0:Int)<n:=by omega
 have hcm':(cap:Int)≤9223372036854775807:=by unfold maxLen at hcm;omega
 have hl':(16:Int)≤cap:=by omega
 have HZ:=Lib.hid (And.intro hzl (And.intro hz0 (And.intro hzb hpk)))
 have HA:=Lib.hid (And.intro ha hn)
 have hax:=ha
 have y1:IntKind.i64.wrap 1=1:=by decide
 have y3:IntKind.i64.wrap 3=3:=by decide
 have y2:IntKind.i64.wrap 2=2:=by decide
 have ya:IntKind.i64.wrap a=a:=IntWalk.i64_in _ (by omega)
 have yn:IntKind.i64.wrap (n:Int)=n:=IntWalk.i64_in _ (by omega)
 have na:(n:Int)<256:=by omega
 have ab:0≤a∧a<256:=by omega
 clear hc hat hlt hz hzb hz0 hpk hx2 hb2 hr hs ht e0 e1 hw2 hg0 hlc hcx q2 ha hax hzl c3
 go_enter Tryz.func191,Tryz.ntmps191
 go_wp2_with fail
 refine wp_loop_rounds 2 ?_
 rw[rounds_succ]
 go_upto_region 7 with fail
 change (appX #[.slice none 0 0,.slice (some ⟨w.heap.size,0,none⟩) 1 1]).run Tryz.prog ((w.alloc (.cells #[.int .i64 a,.int .i64 n] 315)).drew)=.ok (.slice (some ⟨g,0,none⟩) 1 k1) w2 at hap
 go_region
 have W7:Hid True:=Lib.hid trivial
 clear hap
 go_wp2_with fail
 rw[rounds_succ]
 go_upto_region 8 with fail
 go_upto_region 9 with (go_at_call 255;(with_reducible refine HP.out.mono ?_);rintro e3 w3 ⟨p3,k3,rfl,ho3,hb3⟩)
 clear HP
 have HO3:=Lib.hid (And.intro ho3 hb3)
 have HAT3:=Lib.hid (HAT.out.keep hb3)
 have HPK:=Lib.hid (xpackN_is (at_of_owned (d:=0) (by rw[runP_len];exact ho3)) (show Secs (runP a n) from⟨by rw[runP_len];exact HA.out.2.2,fun p hp=>by
    obtain⟨j,hj,rfl⟩:=List.mem_map.1 hp
    have:=List.mem_range.1 hj
    have:=HA.out
    omega⟩))
 clear ho3 hb3
 go_upto_region 12 with (go_at_call 108;(with_reducible refine HPK.out.mono ?_);rintro e4 w4 ⟨v4,l4,rfl,ho4,hl4,hb4,hq4⟩)
 clear HPK
 have hz4:l4=z:=by rw[hq4,HZ.out.2.2.2]
 rw[hz4] at ho4 hl4
 have ha4:At (Value.int .u8) 0 w4 v4 z:=at_of_owned (f:=u8V) ho4
 have ha4':=ha4
 obtain⟨va4,c4,rfl,-⟩:=ha4'
 have hcv1:=convL ha4 rfl HZ.out.2.1 HZ.out.2.2.1
 have hcv2:=convL (HAT3.out.keep hb4) (by rw[hl4]) HZ.out.2.1 HZ.out.2.2.1
 rw[hl4] at hcv1
 have HB4:=Lib.hid hb4
 clear hz4 hq4 hb4 ho4 ha4
 go_wp2_with fail
 go_ret2
 exact⟨p3,k3,rfl,owns_keep (owns_base HO3.out.1 HW2.out.size) HB4.out,HW2.out.trans ((HO3.out.2.trans (HB4.out.mono HO3.out.2.size)).mono HW2.out.size)⟩
end
def XUnp (zs ps:List Int):Prop:=∀(w:World) (v:Value),At (Value.int .u8) 0 w v zs→Calls Tryz.prog 191 #[v] w fun e w'=>∃p c,e=.returned (.tuple #[.slice p ps.length c,.int .i64 0])∧w'.ownsRow w.heap.size 3 1 (.slice p ps.length c) ps.length (ps.map i64V)∧Below w.heap.size w w'
def NdBy (y:Nd) (x0 x1 x2 x3 x4 x5 x6 x7 x8:Int):Prop:=#[.int .i64 (IntKind.i64.wrap x0),.int .i64 (bits BinOp.or IntKind.i64 (IntKind.i64.wrap x1) (IntKind.i64.wrap ((IntKind.i64.wrap x2)*256))),.int .i64 (IntKind.i64.wrap x3),.int .i64 (IntKind.i64.wrap x4),.int .i64 (bits BinOp.or IntKind.i64 (IntKind.i64.wrap x5) (IntKind.i64.wrap ((IntKind.i64.wrap x6)*256))),.int .i64 (IntKind.i64.wrap x7),.int .i64 (IntKind.i64.wrap x8),.slice none 0 0]=(ndA { y with pv:=.slice none 0 0 })
theorem st_inoG (p v:Value):Instr.storeAt 120 p v=stR 120 p v:=rfl
attribute [local go_sem ↓] ld_ino st_inoG
theorem iunpackG_is {w:World} {v:Value} {y:Nd} {x0 x1 x2 x3 x4 x5 x6 x7 x8:Int} {zs:List Int}(hv:At (Value.int .u8) 0 w v (x0::x1::x2::x3::x4::x5::x6::x7::x8::(zs++zeros 7)))(hzs:zs.length=16)(hN:NdBy y x0 x1 x2 x3 x4 x5 x6 x7 x8)(hX:XUnp zs y.ps)(hok:NdOk y)(hL:ndL y=(x0::x1::x2::x3::x4::x5::x6::x7::x8::(zs++zeros 7))) :
  Calls Tryz.prog 112 #[v] w fun e w'=>∃p c,e=.returned (.tuple #[.agg (ndA { y with pv:=.slice p y.ps.length c }),.int .i64 0])∧w'.ownsRow w.heap.size 3 1 (.slice p y.ps.length c) y.ps.length (y.ps.map i64V)∧Below w.heap.size w w':=by
 have HV:=Lib.hid hv
 have HXX:=Lib.hid hX
 have HOK:=Lib.hid hok
 obtain⟨L,hLL⟩:∃L,L=(x0::x1::x2::x3::x4::x5::x6::x7::x8::(zs++zeros 7)):=⟨_,rfl⟩
 have hlen:L.length=32:=by rw[hLL];simp[zeros_len,hzs]
 have hg:∀i,i<16→L.getD (9+i) 0=zs.getD i 0:=fun i hi=>by
  rw[hLL,Nat.add_comm]
  simp only[List.getD_cons_succ]
  rw[List.getD_eq_getElem?_getD,List.getD_eq_getElem?_getD,List.getElem?_append_left (by omega)]
 rw[← hLL] at hv hL HV
 have HLN:Hid (ndL y=L):=Lib.hid hL
 have HLL:=Lib.hid hLL
 have HLEN:=Lib.hid (And.intro hlen hg)
 have HZS:=Lib.hid hzs
 have HNN:=Lib.hid hN
 obtain⟨a,cap,rfl,hl,hcm,-⟩:=hv
 rw[hlen] at hl HV ⊢
 rcases At.cellB HV.out with e|⟨b,o,rfl,hlt,hc⟩
 ·rw[e] at hlen;cases hlen
 rw[hlen] at hc
 have hd:L.getD 0 0=x0∧L.getD 1 0=x1∧L.getD 2 0=x2∧L.getD 3 0=x3∧L.getD 4 0=x4∧L.getD 5 0=x5∧L.getD 6 0=x6∧L.getD 7 0=x7∧L.getD 8 0=x8:=by rw[hLL];exact⟨rfl,rfl,rfl,rfl,rfl,rfl,rfl,rfl,rfl⟩
 have HD:=Lib.hid hd
 have HC:=Lib.hid hc
 have HLT:=Lib.hid hlt
 have HCM:=Lib.hid hcm
 clear hc hlt hcm hd hlen hg hLL hL hX hok hN hzs
 go_enter Tryz.func112,Tryz.ntmps112
 go_upto_region 3 with fail
 have HB0:=Lib.hid (Go.Joins.below_alloc1 w (.cells #[.int .i64 0,.int .i64 0,.int .i64 0,.int .i64 0,.int .i64 0,.int .i64 0,.int .i64 0,.slice none 0 0] 120))
 have HR0:Hid (Row (w.alloc (.cells #[.int .i64 0,.int .i64 0,.int .i64 0,.int .i64 0,.int .i64 0,.int .i64 0,.int .i64 0,.slice none 0 0] 120)) w.heap.size 120 (nodeA 0 0 0 0)):=Lib.hid (row_new w _ _)
 have HV0:=Lib.hid (HV.out.keep HB0.out)
 have HLT0:Hid (b<(w.alloc (.cells #[.int .i64 0,.int .i64 0,.int .i64 0,.int .i64 0,.int .i64 0,.int .i64 0,.int .i64 0,.slice none 0 0] 120)).heap.size):=Lib.hid (Nat.lt_of_lt_of_le HLT.out HB0.out.size)
 have HC0:Hid (∀i,i<32→(w.alloc (.cells #[.int .i64 0,.int .i64 0,.int .i64 0,.int .i64 0,.int .i64 0,.int .i64 0,.int .i64 0,.slice none 0 0] 120)).cell? ⟨b,o+i,none⟩=some (.int .u8 (L.getD i 0))):=Lib.hid (fun i hi=>by rw[HB0.out.cell (p:=⟨b,o+i,none⟩) HLT.out,HC.out i hi])
 generalize w.alloc (.cells #[.int .i64 0,.int .i64 0,.int .i64 0,.int .i64 0,.int .i64 0,.int .i64 0,.int .i64 0,.slice none 0 0] 120)=w0 at *
 have HS:Hid (w0.cell? ⟨b,o,none⟩=some (.int .u8 x0)∧w0.cell? ⟨b,o+1,none⟩=some (.int .u8 x1)∧w0.cell? ⟨b,o+2,none⟩=some (.int .u8 x2)∧w0.cell? ⟨b,o+3,none⟩=some (.int .u8 x3)∧w0.cell? ⟨b,o+4,none⟩=some (.int .u8 x4)∧w0.cell? ⟨b,o+5,none⟩=some (.int .u8 x5)∧w0.cell? ⟨b,o+6,none⟩=some (.int .u8 x6)∧w0.cell? ⟨b,o+7,none⟩=some (.int .u8 x7)∧w0.cell? ⟨b,o+8,none⟩=some (.int .u8 x8)):=Lib.hid (by
    obtain⟨d0,d1,d2,d3,d4,d5,d6,d7,d8⟩:=HD.out
    have k:=HC0.out
    refine⟨?_,?_,?_,?_,?_,?_,?_,?_,?_⟩
    · have:=k 0 (by decide);rw[d0] at this;exact this
    · have:=k 1 (by decide);rw[d1] at this;exact this
    · have:=k 2 (by decide);rw[d2] at this;exact this
    · have:=k 3 (by decide);rw[d3] at this;exact this
    · have:=k 4 (by decide);rw[d4] at this;exact this
    · have:=k 5 (by decide);rw[d5] at this;exact this
    · have:=k 6 (by decide);rw[d6] at this;exact this
    · have:=k 7 (by decide);rw[d7] at this;exact this
    · have:=k 8 (by decide);rw[d8] at this;exact this)
 have HSA:Hid (∀ob,(w0.alloc ob).cell? ⟨b,o,none⟩=some (.int .u8 x0)∧(w0.alloc ob).cell? ⟨b,o+1,none⟩=some (.int .u8 x1)∧(w0.alloc ob).cell? ⟨b,o+2,none⟩=some (.int .u8 x2)∧(w0.alloc ob).cell? ⟨b,o+3,none⟩=some (.int .u8 x3)∧(w0.alloc ob).cell? ⟨b,o+4,none⟩=some (.int .u8 x4)∧(w0.alloc ob).cell? ⟨b,o+5,none⟩=some (.int .u8 x5)∧(w0.alloc ob).cell? ⟨b,o+6,none⟩=some (.int .u8 x6)∧(w0.alloc ob).cell? ⟨b,o+7,none⟩=some (.int .u8 x7)∧(w0.alloc ob).cell? ⟨b,o+8,none⟩=some (.int .u8 x8)):=Lib.hid (fun ob=>by
    have h:=HS.out
    have k:∀j,(w0.alloc ob).cell? ⟨b,j,none⟩=w0.cell? ⟨b,j,none⟩:=fun j=>World.cell?_alloc_lt _ _ _ HLT0.out
    simp only[k]
    exact h)
 have HR1:Hid (Row ((w0.alloc (.cells #[.int .i64 0,.int .i64 0,.int .i64 0,.int .i64 0,.int .i64 0,.int .i64 0,.int .i64 0,.slice none 0 0] 120)).drew) w0.heap.size 120 #[.int .i64 0,.int .i64 0,.int .i64 0,.int .i64 0,.int .i64 0,.int .i64 0,.int .i64 0,.slice none 0 0]):=Lib.hid (row_new w0 120 #[.int .i64 0,.int .i64 0,.int .i64 0,.int .i64 0,.int .i64 0,.int .i64 0,.int .i64 0,.slice none 0 0]).drew
 have eN:#[.int .i64 (IntKind.i64.wrap x0),.int .i64 (bits BinOp.or IntKind.i64 (IntKind.i64.wrap x1) (IntKind.i64.wrap ((IntKind.i64.wrap x2)*256))),.int .i64 (IntKind.i64.wrap x3),.int .i64 (IntKind.i64.wrap x4),.int .i64 (bits BinOp.or IntKind.i64 (IntKind.i64.wrap x5) (IntKind.i64.wrap ((IntKind.i64.wrap x6)*256))),.int .i64 (IntKind.i64.wrap x7),.int .i64 (IntKind.i64.wrap x8),.slice none 0 0]=(ndA { y with pv:=.slice none 0 0 }):=HNN.out
 have stn:(stR 120 (.pointer (some ⟨w0.heap.size,0,none⟩)) (.agg #[.int .i64 (IntKind.i64.wrap x0),.int .i64 (bits BinOp.or IntKind.i64 (IntKind.i64.wrap x1) (IntKind.i64.wrap ((IntKind.i64.wrap x2)*256))),.int .i64 (IntKind.i64.wrap x3),.int .i64 (IntKind.i64.wrap x4),.int .i64 (bits BinOp.or IntKind.i64 (IntKind.i64.wrap x5) (IntKind.i64.wrap ((IntKind.i64.wrap x6)*256))),.int .i64 (IntKind.i64.wrap x7),.int .i64 (IntKind.i64.wrap x8),.slice none 0 0])).run Tryz.prog ((w0.alloc (.cells #[.int .i64 0,.int .i64 0,.int .i64 0,.int .i64 0,.int .i64 0,.int .i64 0,.int .i64 0,.slice none 0 0] 120)).drew)=.ok () (((w0.alloc (.cells #[.int .i64 0,.int .i64 0,.int .i64 0,.int .i64 0,.int .i64 0,.int .i64 0,.int .i64 0,.slice none 0 0] 120)).drew).setRow w0.heap.size (ndA { y with pv:=.slice none 0 0 })):=by
  rw[HR1.out.st0 (cs:=#[.int .i64 (IntKind.i64.wrap x0),.int .i64 (bits BinOp.or IntKind.i64 (IntKind.i64.wrap x1) (IntKind.i64.wrap ((IntKind.i64.wrap x2)*256))),.int .i64 (IntKind.i64.wrap x3),.int .i64 (IntKind.i64.wrap x4),.int .i64 (bits BinOp.or IntKind.i64 (IntKind.i64.wrap x5) (IntKind.i64.wrap ((IntKind.i64.wrap x6)*256))),.int .i64 (IntKind.i64.wrap x7),.int .i64 (IntKind.i64.wrap x8),.slice none 0 0]) rfl (by kernel_rfl) (by rw[eN];exact ndA_one _ rfl),eN]
 have HR2:=Lib.hid (HR1.out.setRow (ndA { y with pv:=.slice none 0 0 }))
 have HW2:=Lib.hid (((Go.Joins.below_alloc1 w0 (.cells #[.int .i64 0,.int .i64 0,.int .i64 0,.int .i64 0,.int .i64 0,.int .i64 0,.int .i64 0,.slice none 0 0] 120)).drew).trans (Upd.toBelow (Upd.setRow ((w0.alloc (.cells #[.int .i64 0,.int .i64 0,.int .i64 0,.int .i64 0,.int .i64 0,.int .i64 0,.int .i64 0,.slice none 0 0] 120)).drew) (b:=w0.heap.size) (ndA { y with pv:=.slice none 0 0 }) (S:=fun k=>k=w0.heap.size) rfl) (by simp[World.drew]) (by omega)))
 have HS2:Hid ((((w0.alloc (.cells #[.int .i64 0,.int .i64 0,.int .i64 0,.int .i64 0,.int .i64 0,.int .i64 0,.int .i64 0,.slice none 0 0] 120)).drew).setRow w0.heap.size (ndA { y with pv:=.slice none 0 0 })).cell? ⟨b,o,none⟩=some (.int .u8 x0)∧(((w0.alloc (.cells #[.int .i64 0,.int .i64 0,.int .i64 0,.int .i64 0,.int .i64 0,.int .i64 0,.int .i64 0,.slice none 0 0] 120)).drew).setRow w0.heap.size (ndA { y with pv:=.slice none 0 0 })).cell? ⟨b,o+1,none⟩=some (.int .u8 x1)∧(((w0.alloc (.cells #[.int .i64 0,.int .i64 0,.int .i64 0,.int .i64 0,.int .i64 0,.int .i64 0,.int .i64 0,.slice none 0 0] 120)).drew).setRow w0.heap.size (ndA { y with pv:=.slice none 0 0 })).cell? ⟨b,o+2,none⟩=some (.int .u8 x2)∧(((w0.alloc (.cells #[.int .i64 0,.int .i64 0,.int .i64 0,.int .i64 0,.int .i64 0,.int .i64 0,.int .i64 0,.slice none 0 0] 120)).drew).setRow w0.heap.size (ndA { y with pv:=.slice none 0 0 })).cell? ⟨b,o+3,none⟩=some (.int .u8 x3)∧(((w0.alloc (.cells #[.int .i64 0,.int .i64 0,.int .i64 0,.int .i64 0,.int .i64 0,.int .i64 0,.int .i64 0,.slice none 0 0] 120)).drew).setRow w0.heap.size (ndA { y with pv:=.slice none 0 0 })).cell? ⟨b,o+4,none⟩=some (.int .u8 x4)∧(((w0.alloc (.cells #[.int .i64 0,.int .i64 0,.int .i64 0,.int .i64 0,.int .i64 0,.int .i64 0,.int .i64 0,.slice none 0 0] 120)).drew).setRow w0.heap.size (ndA { y with pv:=.slice none 0 0 })).cell? ⟨b,o+5,none⟩=some (.int .u8 x5)∧(((w0.alloc (.cells #[.int .i64 0,.int .i64 0,.int .i64 0,.int .i64 0,.int .i64 0,.int .i64 0,.int .i64 0,.slice none 0 0] 120)).drew).setRow w0.heap.size (ndA { y with pv:=.slice none 0 0 })).cell? ⟨b,o+6,none⟩=some (.int .u8 x6)∧(((w0.alloc (.cells #[.int .i64 0,.int .i64 0,.int .i64 0,.int .i64 0,.int .i64 0,.int .i64 0,.int .i64 0,.slice none 0 0] 120)).drew).setRow w0.heap.size (ndA { y with pv:=.slice none 0 0 })).cell? ⟨b,o+7,none⟩=some (.int .u8 x7)∧(((w0.alloc (.cells #[.int .i64 0,.int .i64 0,.int .i64 0,.int .i64 0,.int .i64 0,.int .i64 0,.int .i64 0,.slice none 0 0] 120)).drew).setRow w0.heap.size (ndA { y with pv:=.slice none 0 0 })).cell? ⟨b,o+8,none⟩=some (.int .u8 x8)):=Lib.hid (by
    have h:=HS.out
    have k:∀j,((((w0.alloc (.cells #[.int .i64 0,.int .i64 0,.int .i64 0,.int .i64 0,.int .i64 0,.int .i64 0,.int .i64 0,.slice none 0 0] 120)).drew).setRow w0.heap.size (ndA { y with pv:=.slice none 0 0 }))).cell? ⟨b,j,none⟩=w0.cell? ⟨b,j,none⟩:=fun j=>HW2.out.cell (p:=⟨b,j,none⟩) HLT0.out
    simp only[k]
    exact h)
 clear HC eN
 generalize hw2:((w0.alloc (.cells #[.int .i64 0,.int .i64 0,.int .i64 0,.int .i64 0,.int .i64 0,.int .i64 0,.int .i64 0,.slice none 0 0] 120)).drew).setRow w0.heap.size (ndA { y with pv:=.slice none 0 0 })=w2 at *
 clear hw2
 go_region_held3 (fun wx=>wx.cell? ⟨b,o,none⟩=some (.int .u8 x0)∧wx.cell? ⟨b,o+1,none⟩=some (.int .u8 x1)∧wx.cell? ⟨b,o+2,none⟩=some (.int .u8 x2)∧wx.cell? ⟨b,o+3,none⟩=some (.int .u8 x3)∧wx.cell? ⟨b,o+4,none⟩=some (.int .u8 x4)∧wx.cell? ⟨b,o+5,none⟩=some (.int .u8 x5)∧wx.cell? ⟨b,o+6,none⟩=some (.int .u8 x6)∧wx.cell? ⟨b,o+7,none⟩=some (.int .u8 x7)∧wx.cell? ⟨b,o+8,none⟩=some (.int .u8 x8)) (first|assumption|exact HS.out|exact HSA.out _|exact HS2.out) (first|fail)
 clear stn HS HSA HR1 HS2
 have HLZ:Hid (w.heap.size<w0.heap.size):=Lib.hid HR0.out.lt
 have HR02:=Lib.hid (HR0.out.keep HW2.out)
 have HV2:=Lib.hid (HV0.out.keep HW2.out)
 have HB2:=Lib.hid (HB0.out.trans (HW2.out.mono HB0.out.size))
 have HL2:Hid (w0.heap.size<w2.heap.size):=Lib.hid HR2.out.lt
 have HX:Hid (At (Value.int .u8) 0 w2 (.slice (some ⟨b,o+9,none⟩) 16 (cap-9)) zs):=Lib.hid (by
    refine⟨_,_,by rw[HZS.out],by rw[HZS.out];omega,by have:=HCM.out;omega,.inr ⟨b,o+9,rfl,Nat.lt_of_lt_of_le HLT0.out HW2.out.size,fun i hi=>?_⟩⟩
    rw[HZS.out] at hi
    rw[HW2.out.cell (p:=⟨b,o+9+i,none⟩) HLT0.out,show o+9+i=o+(9+i) by omega,HC0.out (9+i) (by omega),HLEN.out.2 i hi])
 have HXU:=Lib.hid (HXX.out w2 _ HX.out)
 clear HC0 HR0 HV0 HV HB0 HX HW2
 have b1:25≤cap:=by omega
 have b2:¬cap=9:=by omega
 go_upto_region 5 with (go_at_call 191;refine HXU.out.mono ?_;rintro e3 w3 ⟨p3,k3,rfl,ho3,hb3⟩)
 have HB3:=Lib.hid (HB2.out.trans (hb3.mono HB2.out.size))
 have HR3:=Lib.hid (HR2.out.keep hb3)
 have HR03:=Lib.hid (HR02.out.keep hb3)
 have HV3:=Lib.hid (HV2.out.keep hb3)
 have HO3:=Lib.hid ho3
 have HL3:Hid (w2.heap.size≤w3.heap.size):=Lib.hid hb3.size
 clear HB2 HR2 HR02 HV2 HXU hb3 ho3
 have c7:w3.cell? ⟨w0.heap.size,7,none⟩=some (.slice none 0 0):=by rw[HR3.out.cell];rfl
 have f7:=HR3.out.fz 7
 have u4:Upd (fun k=>k=w0.heap.size) w3 (w3.setCell ⟨w0.heap.size,7,none⟩ (.slice p3 y.ps.length k3)):=Upd.set _ _ rfl
 have HR4:Hid (Row (w3.setCell ⟨w0.heap.size,7,none⟩ (.slice p3 y.ps.length k3)) w0.heap.size 120 (ndA { y with pv:=.slice p3 y.ps.length k3 })):=Lib.hid (by
    rw[HR3.out.setCell];exact HR3.out.setRow _)
 have HR04:=Lib.hid (HR03.out.upd u4 (by have:=HLZ.out;omega))
 have HB4:=Lib.hid (HB3.out.trans (u4.toBelow HB3.out.size (by have:=HLZ.out;omega)))
 have HO4:=Lib.hid (u4.owns HO3.out (fun g hg e=>by have:=(HO3.out.lt g hg).1;have:=HL2.out;omega))
 have HV4:Hid (At (Value.int .u8) 0 (w3.setCell ⟨w0.heap.size,7,none⟩ (.slice p3 y.ps.length k3)) (.slice (some ⟨b,o,none⟩) 32 cap) L):=Lib.hid (HV3.out.upd8 u4 (fun j e q=>by
    have e1:b=j:=Option.some.inj e
    have:=HLT0.out
    omega))
 have HL4:Hid (w2.heap.size≤(w3.setCell ⟨w0.heap.size,7,none⟩ (.slice p3 y.ps.length k3)).heap.size):=Lib.hid (Nat.le_trans HL3.out u4.size)
 clear HR3 HR03 HB3 HV3 u4
 go_upto_region 8 with fail
 clear c7 f7
 generalize w3.setCell ⟨w0.heap.size,7,none⟩ (.slice p3 y.ps.length k3)=w4 at *
 have l4:=HR4.out.ld0 Tryz.underlying120 rfl (by rw[ndA_size];kernel_rfl)
 have HP:=Lib.hid (ipackNb_is (x:={ y with pv:=.slice p3 y.ps.length k3 }) (at_of_owned (d:=0) HO4.out) (show NdOk { y with pv:=.slice p3 y.ps.length k3 } from⟨HOK.out.k,HOK.out.m,HOK.out.u,HOK.out.g,HOK.out.l,HOK.out.up,HOK.out.ps,HOK.out.sz⟩) (fun j e=>HO4.out.lt j e |>.2))
 obtain⟨N,hN⟩:∃N,N=(ndA { y with pv:=.slice p3 y.ps.length k3 }):=⟨_,rfl⟩
 rw[← hN] at l4 HP HR4
 have HNN:=Lib.hid hN
 clear hN
 go_upto_region 9 with (go_at_call 44;refine HP.out.mono ?_;rintro e5 w5 ⟨g5,l5,rfl,hg5,hk5,hl5,hb5,hq5⟩)
 have hq:l5=L:=hq5.trans HLN.out
 rw[hq] at hk5 hl5
 have ho5:=ob_of_bk hk5 hg5 (by rw[hl5];decide) (c:=32) hl5.symm
 have HB5:=Lib.hid (HB4.out.trans (hb5.mono HB4.out.size))
 have HR5:=Lib.hid (HR4.out.keep hb5)
 have HR05:=Lib.hid (HR04.out.keep hb5)
 have HO5:=Lib.hid (owns_keep HO4.out hb5)
 have HEQ:=Lib.hid (equalB_is (by rw[hl5];decide) ho5.at (HV4.out.keep hb5))
 rw[hl5] at HEQ
 clear HP HB4 HR4 HR04 HV4 ho5 hb5 l4 hk5 hg5 hq hq5
 go_upto_region 11 with (go_at_call 10;refine HEQ.out.mono ?_;rintro e6 w6 ⟨rfl,hb6⟩)
 have HB6:=Lib.hid (HB5.out.trans (hb6.mono HB5.out.size))
 have HR6:=HR5.out.keep hb6
 have HR06:=HR05.out.keep hb6
 have HO6:=Lib.hid (owns_keep HO5.out hb6)
 have l6:=HR6.ld0 Tryz.underlying120 rfl (by rw[HNN.out,ndA_size];kernel_rfl)
 have s6:=HR06.st0 (cs:=N) (by rw[HNN.out] <;> rfl) (by rw[HNN.out,ndA_size];kernel_rfl) (by rw[HNN.out];exact ndA_one _ rfl)
 have l7:=(HR06.setRow N).ldV Tryz.underlying120 rfl (by rw[HNN.out,ndA_size];kernel_rfl)
 have HB7:=Lib.hid (HB6.out.trans (Upd.toBelow (Upd.setRow w6 N (b:=w.heap.size) (S:=fun k=>k=w.heap.size) rfl) HB6.out.size (by omega)))
 have HO7:=Lib.hid ((Upd.setRow w6 N (b:=w.heap.size) (S:=fun k=>k=w.heap.size) rfl).owns HO6.out (fun g hg e=>by have:=(HO6.out.lt g hg).1;have:=HL2.out;have:=HLZ.out;omega))
 generalize w6.setRow w.heap.size N=w7 at *
 clear HR6 HR06 hb6 HEQ HB5 HR5 HR05
 go_wp2_with fail
 exact bodyPost_ret (v:=.tuple #[.agg N,.int .i64 0]) (by rw[results_cell_tmp rfl];simp[asAddr,Result.andThen,l7]) rfl ⟨p3,k3,by rw[HNN.out],owns_base HO7.out (by have:=HL2.out;have:=HLZ.out;omega),HB7.out⟩
end Go.Proofs.YtfkepfncgdlgoaaGreatDoor
