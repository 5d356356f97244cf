/- fs.Write of some bytes into "g". Printed by gen_gah.py. -/
import Derived.Test.YtfkepfncgdlgoaaGreatDoorGaG
import Derived.Test.YtfkepfncgdlgoaaGreatDoorFwD
import Derived.Test.YtfkepfncgdlgoaaGreatDoorRwB
namespace Go.Proofs.YtfkepfncgdlgoaaGreatDoor
open Go.RowKit Go.Maps
set_option linter.unusedVariables false
set_option linter.unusedSimpArgs false
set_option maxRecDepth 100000
set_option maxHeartbeats 4000000
structure FileYG (x:FM) (q:Nat) (K:Nat):Prop where
 n0:NdOk (x.nd 0)
 n1:NdOk (x.nd 1)
 nz:∀i,3≤i→i<32→x.nd i=nd0
 G:∀k,k<16→37≤x.G k∧x.G k<256
 gi:∀i j,i<16→j<16→x.G i=x.G j→i=j
 free:Free x.G q K
 na:x.na≤16
structure WroteG (w w':World) (c:FC) (x x':FM):Prop where
 st:FSt w' c x'
 held:x'.held=x.held∧x'.nh=x.nh
 bs:∀j,x'.bs j→x.bs j∨w.heap.size≤j
 up:Upd (fun j=>j=c.F∨j=x.a) w w'
 sd:SameD x x'
theorem wendG_is {w4 w8 w:World} {c:FC} {x:FM} {t:Nat} {y Y:TM} {q K nbk:Nat} {z:List Int} {v8:Value} {n:Nd}(hT:TX w4 w8 c x t { Y with nd:=ups1 Y.nd 2 n,dy:=fun j=>if j=3 then some () else Y.dy j,nb:=Y.nb+1 })(h:WLoop y q K z nbk Y)(hnd:y.nd=x.nd)(hG:y.G=x.G)(hdy:∀j,y.dy j=none)(hgv:y.gv=.slice none 0 0)(hnp:y.np=0)(hpt:∀p,y.pt p=none)
  (hn:n={ x.nd 2 with sz:=z.length,pv:=v8,ps:=pts q K K }) (hok:NdOk n) (hx:FileYG x q K) (hK:K≤4) (hw:Below w.heap.size w w4) :
  Calls Tryz.prog 55 #[.pointer (some ⟨t,0,none⟩)] w8 fun e w'=>e=.returned (.int .i64 0)∧∃x',WroteG w w' c x x':=by
 obtain⟨Z,hZ⟩:∃Z:TM,Z={ Y with nd:=ups1 Y.nd 2 n,dy:=fun j=>if j=3 then some () else Y.dy j,nb:=Y.nb+1 }:=⟨_,rfl⟩
 rw[← hZ] at hT
 have z1:Z.nd=ups1 x.nd 2 n:=by rw[hZ];show ups1 Y.nd 2 n=_;rw[h.nd,hnd]
 have z2:Z.G=gN x.G q K:=by rw[hZ];show Y.G=_;rw[h.G,hG]
 have z3:∀j,j≠3→Z.dy j=none:=fun j hj=>by rw[hZ];show (if j=3 then some () else Y.dy j)=none;rw[if_neg hj,h.dy,hdy]
 have z4:Z.gv=.slice none 0 0:=by rw[hZ];exact h.gv.trans hgv
 have z5:Z.np=K:=by rw[hZ];show Y.np=K;rw[h.np,hnp];omega
 have z6:Z.pt=Y.pt:=by rw[hZ]
 have hfr:=hx.free
 have hq1:=hfr.lo
 have hc1:cntD Z 16≤2:=cntD_two Z (fun k hk=>by
    unfold dirt
    rw[z3 _ (by omega),z3 _ (by omega)]
    rfl) 16
 have hGo:∀k,k<16→Z.G k=x.G k:=fun k hk=>by rw[z2];exact gN_off q hk K
 have hnd2:∀i,i<32→NdOk (Z.nd i)∨Z.nd i=nd0:=fun i hi=>by
  rw[z1]
  rcases i with _|_|_|i
  ·left;rw[ups1_off _ _ (by decide)];exact hx.n0
  ·left;rw[ups1_off _ _ (by decide)];exact hx.n1
  ·left;rw[ups1_same];exact hok
  ·right;rw[ups1_off _ _ (by omega)];exact hx.nz _ (by omega) hi
 have hp0:∀p,(∀j,j<K→p≠((q+j:Nat):Int))→Z.pt p=none:=fun p hp=>by rw[z6,h.p0 p hp,hpt]
 refine(end_is hT hnd2 (fun k hk=>by have:=hx.G k hk;rw[hGo k hk];omega) (fun i j hi hj e=>by rw[hGo i hi,hGo j hj] at e;exact hx.gi i j hi hj e) z4 (by have:=hx.na;omega) (fun j h1 h4=>hp0 j (fun i _=>by omega))).mono ?_
 rintro e w' ⟨rfl,⟨P,m,B,hm,hoff,hF,hE⟩,hU⟩
 exact⟨rfl,_,hF,⟨rfl,rfl⟩,fun j hj=>by
    rcases hj with hj|hj
    · exact .inl hj
    · exact .inr (Nat.le_trans hw.size hj.1),(Upd.below hw).trans hU,⟨rfl,rfl,rfl,rfl,rfl,rfl⟩⟩
section
variable {w:World} {c:FC} {x:FM}
attribute [local go_sem ↓] ld_ino st_ino2 apI8_eq
theorem writeG_is (h:FSt w c x)(hk:(x.nd 2).k=1)(hps:(x.nd 2).ps=[])(hsz:(x.nd 2).sz=0) {q K:Nat}(hy:FileYG x q K) {v:Value} {z:List Int}(hz:At (Value.int .u8) 0 w v z)(hz1:1≤z.length)(hz2:z.length≤256)(hK:K=(z.length-1) / 64+1)
  (hok:∀v8,NdOk { x.nd 2 with sz:=z.length,pv:=v8,ps:=pts q K K }) :
  Calls Tryz.prog 60 #[.pointer (some ⟨c.F,0,none⟩),.int .i64 3,.int .i64 0,v] w fun e w'=>e=.returned (.tuple #[.int .i64 z.length,.int .i64 0])∧∃x',WroteG w w' c x x':=by
 have HH:=Lib.hid h
 have HY:=Lib.hid hy
 have HOK:=Lib.hid hok
 have HFI:=Lib.hid (fileF_is h (i:=2) (by decide) (n:=3) rfl hk)
 have HZ:=Lib.hid hz
 have HX:=Lib.hid (And.intro hps (And.intro hsz (And.intro hz1 (And.intro hz2 hK))))
 obtain⟨az,cz,rfl,lz,mz,-⟩:=hz
 rcases At.cellB HZ.out with e|⟨zb,zo,rfl,hzb,hzc⟩
 ·rw[e] at hz1;simp at hz1
 have HZC:=Lib.hid (And.intro hzb hzc)
 clear hzb hzc
 obtain⟨L,hL⟩:∃L,L=z.length:=⟨_,rfl⟩
 rw[← hL] at hz1 hz2 lz hK ⊢
 have HL:=Lib.hid hL
 have hK4:K≤4:=by omega
 have HK4:=Lib.hid hK4
 have HBL:=Lib.hid (fun w=>blocks_is w L hz1 (by omega))
 rw[← hK] at HBL
 have mcz:(cz:Int)≤9223372036854775807:=by unfold maxLen at mz;omega
 have i1:¬(512:Int)<L:=by omega
 have i2:IntKind.i64.wrap (512-(L:Int))=512-L:=IntWalk.i64_in _ (by omega)
 have i3:¬(512-(L:Int))<0:=by omega
 have i4:((L:Int) == 0)=false:=by simp;omega
 have i5:IntKind.i64.wrap (0+(L:Int))=L:=by rw[IntWalk.i64_in _ (by omega)];omega
 have i6:IntKind.i64.wrap (L:Int)=L:=IntWalk.i64_in _ (by omega)
 have i7:¬(L:Int)=0:=by omega
 have HBG:=Lib.hid (begin_is h)
 have HKL:=Lib.hid hK
 clear h hk hps hsz hy hok hL hK
 go_enter Tryz.func60,Tryz.ntmps60
 go_upto_region 11 with (first|(go_at_call 126;(with_reducible refine HFI.out.mono ?_);rintro e0 w0 ⟨rfl,rfl⟩)|(go_at_call 53;(with_reducible refine HBG.out.mono ?_);rintro e5 w1 ⟨t,gN0,cN,db,pb,rfl,hT1⟩))
 have HT1:=Lib.hid hT1
 have HN:Hid (Calls Tryz.prog 116 #[.pointer (some ⟨t,0,none⟩),.int .i64 3] w1 fun e w'=>e=.returned (.agg (ndA (x.nd 2)))∧Below w1.heap.size w1 w'):=Lib.hid (node_is hT1 (i:=2) (by decide) (n:=3) rfl)
 have hone:=ndA_one (x.nd 2) (ip_one (HH.out.ps 2 (by decide)).1)
 have HPV:=Lib.hid (HH.out.ps 2 (by decide)).1.a
 obtain⟨N,hNd⟩:∃N,N=x.nd 2:=⟨_,rfl⟩
 rw[← hNd] at HN HOK HX HPV hone
 have HD:=Lib.hid hNd
 have hsn:=fun w=>st0_new w (T:=120) (c:=#[.int .i64 0,.int .i64 0,.int .i64 0,.int .i64 0,.int .i64 0,.int .i64 0,.int .i64 0,.slice none 0 0]) (cs:=ndA N) rfl (by rw[ndA_size];kernel_rfl) hone
 clear hT1 hNd hone HFI HBG
 go_upto_region 12 with (go_at_call 116;(with_reducible refine HN.out.mono ?_);rintro e2 w2 ⟨rfl,hb2⟩)
 have hr3:=row_new w2 120 (ndA N)
 have hb3:Below w1.heap.size w1 (w2.alloc (.cells (ndA N) 120)):=hb2.trans ((Go.Joins.below_alloc1 w2 _).mono hb2.size)
 have HNK:Hid (w1.heap.size≤w2.heap.size):=Lib.hid hb2.size
 clear hsn HN hb2
 generalize w2.alloc (.cells (ndA N) 120)=w3 at *
 generalize w2.heap.size=nbk at *
 have hwb:Below w.heap.size w w1:=HT1.out.bl
 have hA3:At (Value.int .i64) 0 w3 N.pv []:=by
  have:=HPV.out.keep (hwb.trans (hb3.mono hwb.size))
  rw[HX.out.1] at this
  exact this
 have c7:w3.cell? ⟨nbk,7,none⟩=some N.pv:=by rw[hr3.cell];rfl
 have HB3:=Lib.hid hb3
 have HR3:=Lib.hid hr3
 have HLT:Hid (nbk<w3.heap.size∧w.heap.size≤w1.heap.size):=Lib.hid ⟨hr3.lt,hwb.size⟩
 have HCL:=Lib.hid (cloneI_is (by decide) hA3)
 clear hb3 hr3 hwb
 obtain⟨ap,cp,hpv,-,mcp,-⟩:=hA3
 rw[hpv] at c7
 have HCL:Hid (Calls Tryz.prog 127 #[.slice ap 0 cp] w3 (CloneI [] w3)):=Lib.hid (by have:=HCL.out;rw[hpv] at this;exact this)
 have mcp':(cp:Int)≤9223372036854775807:=by unfold maxLen at mcp;omega
 go_upto_region 14 with (go_at_call 127;(with_reducible refine HCL.out.mono ?_);rintro e4 w4 ⟨v4,rfl,ho4,hb4⟩;obtain⟨p4,c4,rfl⟩:=own_form ho4;have z7:=(HR3.out.keep hb4).fz 7;have y7:w4.cell? ⟨nbk,7,none⟩=some N.pv:=(HR3.out.keep hb4).cell 7)
 have hT4:TX w (w4.setCell ⟨nbk,7,none⟩ (.slice p4 0 c4)) c x t (tm0 x gN0 cN db pb):=HT1.out.fresh (HT1.out.keep (HB3.out.trans (hb4.mono HB3.out.size))) (j:=nbk) HNK.out (Upd.set w4 _ rfl)
 have hR4:Row (w4.setCell ⟨nbk,7,none⟩ (.slice p4 0 c4)) nbk 120 (ndA { N with pv:=.slice p4 0 c4,ps:=[] }):=by
  rw[(HR3.out.keep hb4).setCell]
  exact(HR3.out.keep hb4).setRow _
 have hgn:∀j,(Value.slice p4 0 c4).ownBlock=some j→¬j=nbk:=fun j e q=>by have:=(ho4.lt j e).1;have:=HLT.out.1;omega
 have hO4:(w4.setCell ⟨nbk,7,none⟩ (.slice p4 0 c4)).ownsRow w3.heap.size 3 1 (.slice p4 0 c4) (List.replicate 0 (0:Int)).length ((List.replicate 0 (0:Int)).map i64V):=(Upd.set (S:=fun j=>j=nbk) w4 (b:=nbk) (i:=7) (.slice p4 0 c4) rfl).owns ho4 hgn
 have hU4:Upd (fun j=>tMut t (tm0 x gN0 cN db pb) j∨j=nbk) w3 (w4.setCell ⟨nbk,7,none⟩ (.slice p4 0 c4)):=(Upd.below hb4).trans (Upd.set w4 _ (.inr rfl))
 have HT4:=Lib.hid hT4
 have HR4:=Lib.hid hR4
 have HO4:=Lib.hid hO4
 have HU4:=Lib.hid hU4
 clear hT4 hR4 hO4 hU4 hgn ho4 hb4 z7 y7 c7 HCL HR3
 generalize w4.setCell ⟨nbk,7,none⟩ (.slice p4 0 c4)=w5 at *
 go_loopw [] (fun wr=>∃j v,j≤K∧Hid (Row wr nbk 120 (ndA { N with pv:=v,ps:=[] }))∧Hid (wr.ownsRow w3.heap.size 3 1 v j ((List.replicate j (0:Int)).map i64V))∧Hid (TX w wr c x t (tm0 x gN0 cN db pb))∧Hid (Upd (fun j=>tMut t (tm0 x gN0 cN db pb) j∨j=nbk) w3 wr)) (fun wr=>K-ptsAt wr nbk)
 case atStart=>exact⟨0,_,by omega,HR4,HO4,HT4,HU4⟩
 case round=>
  clear HT4 HR4 HO4 HU4
  obtain⟨j,v,hj0,HR,HO,HT,HU⟩:=hrel
  obtain⟨pv,cv,rfl⟩:=own_form HO.out
  have c7:wr.cell? ⟨nbk,7,none⟩=some (.slice pv j cv):=HR.out.cell 7
  have c4:wr.cell? ⟨nbk,4,none⟩=some (.int .i64 0):=by rw[HR.out.cell,← HX.out.2.1];rfl
  have hcv:(cv:Int)≤9223372036854775807:=by
   have:=owns_cap HO.out
   unfold maxLen at this
   omega
  by_cases hj:j<K
  ·have j1:(j:Int)<K:=by omega
   go_upto_region 14 with fail
   go_quiet (first|(go_at_call 128;refine Calls.quiet_of_same ((HBL.out _).mono (fun e w' h=>⟨h.1,h.2.symm⟩))))
   rename_i nq
   have HRd:=Lib.hid (HR.out.drewN nq)
   have HOd:=Lib.hid (owns_keep HO.out (below_drewN (Below.refl _ _) nq))
   have HTd:=Lib.hid (HT.out.keep (below_drewN (Below.refl _ _) nq))
   have HUd:=Lib.hid (HU.out.trans (Upd.drewN wr nq))
   have d7:(wr.drewN nq).cell? ⟨nbk,7,none⟩=some (.slice pv j cv):=HRd.out.cell 7
   generalize wr.drewN nq=wd at *
   have hsz:w3.heap.size≤wd.heap.size:=HUd.out.size
   obtain⟨v6,w6,hap,ho6,hg6,hb6⟩:=apI_push (w:=wd) (l:=List.replicate j (0:Int)) (by rw[List.length_replicate];exact HOd.out) hsz 0 (by simp;omega)
   obtain⟨p6,c6,rfl⟩:=own_form ho6
   have e6:(List.replicate j (0:Int)++[0]).length=j+1:=by simp
   rw[rep_next] at ho6
   simp only[List.length_replicate] at ho6
   rw[e6] at hap
   have hap:(apI8 #[.slice pv j cv,.slice (some ⟨wd.heap.size,0,none⟩) 1 1]).run Tryz.prog (wd.alloc (.cells #[.int .i64 0] 3))=.ok (.slice p6 (j+1) c6) w6:=hap
   have hr6:Row w6 nbk 120 (ndA { N with pv:=.slice pv j cv,ps:=[] }):=HRd.out.keepB hb6 HLT.out.1
   have z7:=hr6.fz 7
   have y7:w6.cell? ⟨nbk,7,none⟩=some (.slice pv j cv):=hr6.cell 7
   have h13:w1.heap.size≤w3.heap.size:=HB3.out.size
   have hT6:TX w w6 c x t (tm0 x gN0 cN db pb):=HT1.out.fresh2 HTd.out ((Upd.ofBelow hb6).mono fun i _ e=>Nat.le_trans h13 e)
   have hU6:Upd (fun j=>tMut t (tm0 x gN0 cN db pb) j∨j=nbk) w3 w6:=HUd.out.trans' (Upd.ofBelow hb6) (fun i hi e=>by omega)
   have hu7:Upd (fun k=>k=nbk) w6 (w6.setCell ⟨nbk,7,none⟩ (.slice p6 (j+1) c6)):=Upd.set w6 _ rfl
   have HT7:Hid (TX w (w6.setCell ⟨nbk,7,none⟩ (.slice p6 (j+1) c6)) c x t (tm0 x gN0 cN db pb)):=Lib.hid (HT1.out.fresh hT6 HNK.out hu7)
   have HR7:Hid (Row (w6.setCell ⟨nbk,7,none⟩ (.slice p6 (j+1) c6)) nbk 120 (ndA { N with pv:=.slice p6 (j+1) c6,ps:=[] })):=Lib.hid (by
        rw[hr6.setCell]
        exact hr6.setRow _)
   have HO7:Hid ((w6.setCell ⟨nbk,7,none⟩ (.slice p6 (j+1) c6)).ownsRow w3.heap.size 3 1 (.slice p6 (j+1) c6) (j+1) ((List.replicate (j+1) (0:Int)).map i64V)):=Lib.hid (by
        exact hu7.owns ho6 (fun g e q=>by have:=(ho6.lt g e).1;have:=HLT.out.1;omega))
   have HU7:=Lib.hid (hU6.trans (hu7.mono fun i _ e=>.inr e))
   clear ho6 hg6 hb6 hr6 hT6 hU6 hu7 HR HO HT HU HRd HOd HTd HUd hsz h13
   go_wp2_with fail
   go_roundw
   case rel=>exact⟨j+1,_,by omega,HR7,HO7,HT7,HU7⟩
   case measure=>
    rw[ptsAt_is c7,ptsAt_is (HR7.out.cell 7)]
    omega
  ·obtain rfl:K=j:=by omega
   go_upto_region 14 with fail
   go_quiet (first|(go_at_call 128;refine Calls.quiet_of_same ((HBL.out _).mono (fun e w' h=>⟨h.1,h.2.symm⟩))))
   rename_i nq
   have HRd:=Lib.hid (HR.out.drewN nq)
   have HOd:=Lib.hid (owns_keep HO.out (below_drewN (Below.refl _ _) nq))
   have HTd:=Lib.hid (HT.out.keep (below_drewN (Below.refl _ _) nq))
   have HUd:=Lib.hid (HU.out.trans (Upd.drewN wr nq))
   have d4:(wr.drewN nq).cell? ⟨nbk,4,none⟩=some (.int .i64 0):=by rw[HRd.out.cell,← HX.out.2.1];rfl
   generalize wr.drewN nq=wd at *
   have z4:=HRd.out.fz 4
   clear HR HO HT HU c7 c4
   have hu8:Upd (fun k=>k=nbk) wd (wd.setCell ⟨nbk,4,none⟩ (.int .i64 (L:Int))):=Upd.set wd _ rfl
   have HW8:Hid (WInv w w3 (wd.setCell ⟨nbk,4,none⟩ (.int .i64 (L:Int))) c x t (tm0 x gN0 cN db pb) q K 0 z nbk N L (tm0 x gN0 cN db pb) (.slice pv K cv)):=Lib.hid ⟨HT1.out.fresh HTd.out HNK.out hu8,WLoop.zero (fun p s e=>by cases e),by
          rw[HRd.out.setCell]
          exact HRd.out.setRow _,by
          rw[pts_zero]
          have:=at_of_owned (f:=Value.int .i64) (d:=0) (xs:=List.replicate K 0) (by rw[List.length_replicate];exact hu8.owns HOd.out (fun g e q=>by have:=(HOd.out.lt g e).1;have:=HLT.out.1;omega))
          exact this,fun j e=>⟨(HOd.out.lt j e).1,Nat.lt_of_lt_of_le (HOd.out.lt j e).2 hu8.size⟩,HUd.out.trans (hu8.mono fun i _ e=>.inr e)⟩
   have q5:((L:Int)-1).tdiv 64=(K:Int)-1:=by
    have:=HKL.out
    rw[Int.tdiv_eq_ediv_of_nonneg (by omega)]
    omega
   have y5:IntKind.i64.wrap ((L:Int)-1)=L-1:=IntWalk.i64_in _ (by omega)
   have y6:IntKind.i64.wrap ((K:Int)-1)=K-1:=IntWalk.i64_in _ (by omega)
   clear HRd HOd HTd HUd hu8 hcv
   go_upto_region 17 with fail
   generalize wd.setCell ⟨nbk,4,none⟩ (.int .i64 (L:Int))=w8 at *
   clear d4 z4
   go_wp2_with fail
   go_loopw [14] (fun kv wr=>∃k Y v,k≤K∧kv=.int .i64 (k:Nat)∧Hid (WInv w w3 wr c x t (tm0 x gN0 cN db pb) q K k z nbk N L Y v)) (fun kv _=>K-(intOf kv).toNat)
   case atStart=>exact⟨0,_,_,by omega,by first|rfl|simp,HW8⟩
   case round=>
    clear HW8
    obtain⟨k,Y,v,hk0,rfl,HW⟩:=hrel
    by_cases hk:k<K
    ·have k1:(k:Int)≤(K:Int)-1:=by omega
     have k0:(0:Int)≤k:=by omega
     have l2:=HW.out.row.ld0 Tryz.underlying120 rfl (by rw[ndA_size];kernel_rfl)
     have HBK:=Lib.hid (block_is HW.out.tx (n:={ N with sz:=L,pv:=v,ps:=pts q K k }) HW.out.av (pts_in HY.out.free.hi) k (by omega))
     have eb:bsec x Y (pts q K k) k=zeros 64:=by
      unfold bsec
      rw[pts_get hk,if_neg (Nat.lt_irrefl _),if_pos rfl]
     have HBK:Hid (Calls Tryz.prog 129 #[.pointer (some ⟨t,0,none⟩),.agg (ndA { N with sz:=L,pv:=v,ps:=pts q K k }),.int .i64 k] wr fun e w'=>∃v,e=.returned v∧NewB (zeros 64) wr v w'):=Lib.hid (by have:=HBK.out;rw[← eb];exact this)
     generalize ndA { N with sz:=L,pv:=v,ps:=pts q K k }=An at l2 HBK
     go_upto_region 21 with (go_at_call 129;(with_reducible refine HBK.out.mono ?_);rintro e9 w9 ⟨v9,rfl,ho9,hb9⟩)
     obtain⟨g,cg,rfl,hg0,hg1,hwb⟩:=WB.of_own ho9 (by rw[zeros_len])
     have HBo:Hid (Below w.heap.size w wr):=Lib.hid ((HT1.out.bl.trans (HB3.out.mono HT1.out.bl.size)).trans (HW.out.up.toBelow (Nat.le_trans HLT.out.2 HB3.out.size) (fun j hj e=>by
            rcases e with e|e
            · have:=(HT1.out.mlt e).1;omega
            · have:=HNK.out;have:=HLT.out.2;omega)))
     have HB9:=Lib.hid hb9
     have HG:=Lib.hid (And.intro hg0 hg1)
     have HWB:Hid (WB w9 g cg (secP z k 0)):=Lib.hid (by rw[secP_zero];exact hwb)
     obtain⟨wo,hwo⟩:∃wo:World,wo=wr:=⟨_,rfl⟩
     subst hwo
     clear ho9 hb9 hg0 hg1 hwb HBK l2 eb
     have y1:IntKind.i64.wrap (64*(k:Int))=64*k:=IntWalk.i64_in _ (by omega)
     go_wp2_with fail
     go_loopw [86] (fun iv wr=>∃i:Nat,i≤64∧iv=.int .i64 i∧Hid (WB wr g cg (secP z k i))∧Hid (Upd (fun j=>j=g) w9 wr)) (fun iv _=>64-(intOf iv).toNat)
     case atStart=>exact⟨0,by omega,rfl,HWB,Lib.hid (Upd.refl _ _)⟩
     case round=>
      clear HWB
      obtain⟨i,hi0,rfl,HB,HU⟩:=hrel
      by_cases hi:i<64
      ·have i64:(i:Int)<64:=by omega
       have i00:(0:Int)≤i:=by omega
       obtain⟨m,hm⟩:∃m,m=64*k+i:=⟨_,rfl⟩
       have y2:IntKind.i64.wrap (64*(k:Int)+i)=m:=by rw[IntWalk.i64_in _ (by omega)];omega
       have y3:IntKind.i64.wrap (m:Int)=m:=IntWalk.i64_in _ (by omega)
       have m0:(0:Int)≤m:=by omega
       have HM:=Lib.hid hm
       clear hm
       by_cases hmL:m<L
       ·have m1:(m:Int)<L:=by omega
        have hcb:=HB.out.cell hi
        have hcf:=HB.out.fz i
        have hcz:wr.cell? ⟨zb,zo+m,none⟩=some (.int .u8 (z.getD m 0)):=by
         have hbb:Below w.heap.size w wr:=HBo.out.trans ((HB9.out.mono HBo.out.size).trans (HU.out.toBelow (Nat.le_trans HBo.out.size HB9.out.size) (fun j hj e=>by have e:j=g:=e;have:=HG.out.1;have:=HBo.out.size;omega)))
         exact(hbb.cell (p:=⟨zb,zo+m,none⟩) HZC.out.1).trans (HZC.out.2 m (by rw[← HL.out];exact hmL))
        have HBn:Hid (WB (wr.setCell ⟨g,i,none⟩ (.int .u8 (z.getD m 0))) g cg (secP z k (i+1))):=Lib.hid (by
                  have:=HB.out.set hi (z.getD m 0)
                  rw[HM.out,secP_next z k hi] at this
                  rw[HM.out]
                  exact this)
        have HUn:Hid (Upd (fun j=>j=g) w9 (wr.setCell ⟨g,i,none⟩ (.int .u8 (z.getD m 0)))):=Lib.hid (HU.out.trans (Upd.set wr _ rfl))
        generalize z.getD m 0=zm at *
        go_wp2_with fail
        go_roundw
        case rel=>exact⟨i+1,by omega,by go_num,HBn,HUn⟩
        case measure=>simp[intOf];omega
       ·have m1:¬(m:Int)<L:=by omega
        have HBn:Hid (WB wr g cg (secP z k (i+1))):=Lib.hid (by
                  rw[secP_stay z k (by rw[← HM.out,← HL.out];omega)]
                  exact HB.out)
        go_wp2_with fail
        go_roundw
        case rel=>exact⟨i+1,by omega,by go_num,HBn,HU⟩
        case measure=>simp[intOf];omega
      ·obtain rfl:i=64:=by omega
       have hgw:wo.heap.size≤g:=HG.out.1
       have hwo:w.heap.size≤wo.heap.size:=HBo.out.size
       have hnw:=HW.out.row.lt
       have hT:TX w wr c x t Y:=HW.out.tx.fresh (HW.out.tx.keep HB9.out) hgw HU.out
       have hr:=(HW.out.row.keep HB9.out).upd HU.out (by show ¬nbk=g;omega)
       have hav:At (Value.int .i64) 0 wr v (pts q K k):=(HW.out.av.keep HB9.out).upd8 HU.out (fun j e q=>by have q:j=g:=q;have:=(HW.out.ow j e).2;omega)
       have hmt:=HW.out.wl.mt t
       have hnd:=HW.out.wl.nd
       have hnm:¬tMut t Y nbk:=fun e=>by rw[hmt] at e;have:=(HT1.out.mlt e).2;have:=HNK.out;omega
       have hnb:w.heap.size≤nbk:=by have:=HNK.out;have:=HLT.out.2;omega
       have hwb:=HB.out
       rw[secP_all] at hwb
       have hIm:Im (fun j=>fMut c x j∨tMut t Y j) wr (encS (some (g,0,64,cg))) (secW z k):=⟨hwb.at,fun j e q=>by
                have e:g=j:=by simpa [encS,Value.ownBlock] using e
                subst e
                rcases q with q|q
                · have:=HH.out.lt _ (HH.out.bm _ q);omega
                · have:=(HW.out.tx.mlt q).2;omega⟩
       have hFst:Fst Y.G (q+k):=by
        rw[HW.out.wl.G]
        exact(HY.out.free.gN k (by omega)).fst (by omega)
       have HWR:=Lib.hid (wrote_is hT hr hnm hnb hav (k:=k) (by show k<(pts q K k).length;rw[pts_len];exact hk) (by show (pts q K k).length≤1000;rw[pts_len];omega) (q:=q+k) (G':=gOn Y.G (q+k)) (.inl ⟨by show (pts q K k).getD k 0=0;rw[pts_get hk,if_neg (Nat.lt_irrefl _)],hFst,rfl⟩) ⟨fun i hi e=>by rw[hnd] at e;have:=(HT1.out.ps i hi).lt nbk e;have:=HNK.out;omega,HW.out.wl.pn⟩ hIm (secW_len _ _) (by show w.heap.size≤g;omega) (by show g≠nbk;omega) (by rw[HW.out.wl.np];show 0+k<1000;omega))
       have HWR:Hid (Calls Tryz.prog 130 #[.pointer (some ⟨t,0,none⟩),.pointer (some ⟨nbk,0,none⟩),.int .i64 k,.slice (some ⟨g,0,none⟩) 64 cg] wr fun e w'=>e=.returned (.tuple #[])∧WroteT w wr c x t Y nbk { N with sz:=L,pv:=v,ps:=pts q K k } k (q+k) (gOn Y.G (q+k)) (g,0,64,cg) (secW z k) w'):=Lib.hid HWR.out
       clear hT hr hav hnm hwb hIm hFst hnd hmt
       go_upto_region 19 with (go_at_call 130;(with_reducible refine HWR.out.mono ?_);rintro e10 w10 ⟨rfl,v10,hT10,hr10,ha10,hf10,hu10⟩)
       have hz3:w3.heap.size≤wo.heap.size:=HW.out.up.size
       have hu3:Upd (fun j=>tMut t (tm0 x gN0 cN db pb) j∨j=nbk) w3 w10:=((HW.out.up.trans (Upd.below HB9.out)).trans' HU.out (fun j hj e=>by have e:j=g:=e;omega)).trans (hu10.mono fun j _ e=>by rw[HW.out.wl.mt t] at e;exact e)
       have HW10:Hid (WInv w w3 w10 c x t (tm0 x gN0 cN db pb) q K (k+1) z nbk N L { Y with G:=gOn Y.G (q+k),pt:=fun j=>if j=((q+k:Nat):Int) then some (g,0,64,cg) else Y.pt j,np:=Y.np+1,pby:=fun j=>if j=((q+k:Nat):Int) then secW z k else Y.pby j } v10):=Lib.hid ⟨hT10,HW.out.wl.step (by show g≠nbk;omega),by
                  rw[← pts_set hk]
                  exact hr10,by
                  rw[← pts_set hk]
                  exact ha10,fun j e=>⟨Nat.le_trans hz3 (Nat.le_trans HB9.out.size (Nat.le_trans HU.out.size (hf10 j e).1)),(hf10 j e).2⟩,hu3⟩
       have y7:IntKind.i64.wrap ((k:Int)+1)=k+1:=IntWalk.i64_in _ (by omega)
       clear hT10 hr10 ha10 hf10 hu10 hu3 HWR hnb
       go_wp2_with fail
       go_roundw
       case rel=>exact⟨k+1,_,v10,by omega,by first|go_num|simp,HW10⟩
       case measure=>simp[intOf];omega
    ·obtain rfl:k=K:=by omega
     have k1:¬(k:Int)≤(k:Int)-1:=by omega
     have l2:=HW.out.row.ld0 Tryz.underlying120 rfl (by rw[ndA_size];kernel_rfl)
     have hmt:=HW.out.wl.mt t
     have hIp:Ip (fun j=>fMut c x j∨tMut t Y j∨(¬x.bs j∧j<w.heap.size)) wr { N with sz:=L,pv:=v,ps:=pts q k k }:=⟨HW.out.av,fun j e q=>by
            have h1:=(HW.out.ow j e).1
            have h2:=HB3.out.size
            have h3:=HLT.out.2
            rcases q with q|q|q
            · have:=HH.out.lt _ (HH.out.bm _ q);omega
            · rw[hmt] at q;have:=(HT1.out.mlt q).2;omega
            · omega,fun j e=>(HW.out.ow j e).2⟩
     have HSE:=Lib.hid (set_is HW.out.tx (i:=2) (by decide) (n:=3) rfl hIp (by rw[HW.out.wl.nb];show (0:Nat)<1000;decide))
     have HEN:=Lib.hid (fun w8 (hT:TX w w8 c x t { Y with nd:=ups1 Y.nd 2 { N with sz:=L,pv:=v,ps:=pts q k k },dy:=fun j=>if j=3 then some () else Y.dy j,nb:=Y.nb+1 })=>wendG_is hT HW.out.wl rfl rfl (fun _=>rfl) rfl rfl (fun _=>rfl) (v8:=v) (by rw[HD.out,HL.out]) (by have:=HOK.out v;rw[← HL.out] at this;exact this) HY.out HK4.out (Below.refl w.heap.size w))
     generalize hAn:ndA { N with sz:=L,pv:=v,ps:=pts q k k }=An at l2 HSE
     have HAn:=Lib.hid hAn
     clear hAn hmt hIp
     go_upto_region 30 with (go_at_call 117;(with_reducible refine HSE.out.mono ?_);rintro e9 w9 ⟨rfl,hT9,hu9⟩)
     have HE9:=Lib.hid (HEN.out w9 hT9)
     clear hT9 hu9 HSE HEN l2
     go_wp2_with (go_at_call 55;(with_reducible refine HE9.out.mono ?_);rintro e10 w10 ⟨rfl,hM⟩)
     go_ret2
     exact⟨rfl,hM⟩
theorem writeG0_is (h:FSt w c x)(hk:(x.nd 2).k=1) (a:Option Addr) (cp:Nat)(hc:cp≤maxLen) :
  Calls Tryz.prog 60 #[.pointer (some ⟨c.F,0,none⟩),.int .i64 3,.int .i64 0,.slice a 0 cp] w fun e w'=>e=.returned (.tuple #[.int .i64 0,.int .i64 0])∧w=w':=by
 have HFI:=Lib.hid (fileF_is h (i:=2) (by decide) (n:=3) rfl hk)
 clear h hk
 go_enter Tryz.func60,Tryz.ntmps60
 go_wp2_with (go_at_call 126;(with_reducible refine HFI.out.mono ?_);rintro e0 w0 ⟨rfl,rfl⟩)
 go_ret2
 exact⟨rfl,rfl⟩
end
structure FileG (x:FM) (f:Nat) (m:Int):Prop where
 n0:NdOk (x.nd 0)
 n1:NdOk (x.nd 1)
 n2:∃pv,x.nd 2=⟨1,m,0,0,0,1,0,pv,[]⟩
 nz:∀i,3≤i→i<32→x.nd i=nd0
 G:∀k,k<16→37≤x.G k∧x.G k<256
 gi:∀i j,i<16→j<16→x.G i=x.G j→i=j
 free:Free x.G f 2
 na:x.na≤16
theorem MadeG.file {w w':World} {c:FC} {x x':FM} {q f:Nat} {m:Int}(h:MadeG w w' c x q m 0 0 x')(hr:DirG x q f):FileG x' f m:=by
 obtain⟨pv,e⟩:=h.r0
 have n:=hr.n0
 refine⟨?_,by rw[h.r1];exact hr.n1,h.r2,fun i h1 h2=>(h.rz i h1).trans (hr.nz i (by omega) h2),fun k hk=>by rw[h.G];exact⟨(hr.G k hk).1,(hr.G k hk).2.1⟩,fun i j hi hj e=>by rw[h.G] at e;exact hr.gi i j hi hj e,by rw[h.G];exact hr.free,by have:=h.na;have:=hr.na;omega⟩
 rw[e]
 exact⟨n.k,n.m,n.u,n.g,n.l,n.up,n.ps,32,rfl,by decide,by show (x.nd 0).ps.length=_;rw[hr.ps];rfl⟩
theorem writeGZ_is {w:World} {c:FC} {x:FM}(h:FSt w c x) {f:Nat} {m:Int}(hf:FileG x f m)(hm:0≤m∧m≤511) {v:Value} {z:List Int}(hz:At (Value.int .u8) 0 w v z)(hz2:z.length≤100) :
  Calls Tryz.prog 60 #[.pointer (some ⟨c.F,0,none⟩),.int .i64 3,.int .i64 0,v] w fun e w'=>e=.returned (.tuple #[.int .i64 z.length,.int .i64 0])∧∃x',FSt w' c x'∧SameD x x'∧x'.held=x.held∧x'.nh=x.nh∧(∀j,x'.bs j→x.bs j∨w.heap.size≤j)∧Upd x.bs w w':=by
 obtain⟨pv,e1⟩:=hf.n2
 have hk:(x.nd 2).k=1:=by rw[e1]
 by_cases h0:z.length=0
 ·obtain⟨a,cp,rfl,lz,mz,-⟩:=hz
  rw[h0]
  refine(writeG0_is h hk a cp mz).mono ?_
  rintro e w' ⟨rfl,rfl⟩
  exact⟨rfl,x,h,SameD.refl x,rfl,rfl,fun j e=>.inl e,Upd.refl _ _⟩
 ·have hb:blkz z=(z.length-1) / 64+1:=by unfold blkz;omega
  have hb2:blkz z≤2:=by unfold blkz;omega
  have hfr:=hf.free
  refine(writeG_is h hk (by rw[e1]) (by rw[e1]) (q:=f) ⟨hf.n0,hf.n1,hf.nz,hf.G,hf.gi,hfr.le hb2,hf.na⟩ hz (by omega) (by omega) hb (fun v8=>?_)).mono ?_
  ·rw[e1]
   refine⟨by simp,hm,by simp,by simp,by simp,.inr ⟨by simp,rfl⟩,⟨by rw[pts_len];omega,pts_in (by have:=hfr.hi;omega)⟩,z.length,rfl,by omega,by rw[pts_len];rfl⟩
  ·rintro e w' ⟨rfl,x',hw⟩
   exact⟨rfl,x',hw.st,hw.sd,hw.held.1,hw.held.2,hw.bs,hw.up.mono fun i _ e=>by
        rcases e with rfl|rfl
        · exact h.bm _ (.inl rfl)
        · exact h.bm _ (.inr (.inl rfl))⟩
end Go.Proofs.YtfkepfncgdlgoaaGreatDoor
