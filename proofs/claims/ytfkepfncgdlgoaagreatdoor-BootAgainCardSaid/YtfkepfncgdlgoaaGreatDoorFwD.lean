/- The walk of fs.Write: some bytes into a file that has none. The walks of fs: the bytes of a file (check.Bytes through fs.reader), a piece of them, FS.Read. -/
import Derived.Test.YtfkepfncgdlgoaaGreatDoorFwB
import Derived.BigQuiet
namespace Go.Proofs.YtfkepfncgdlgoaaGreatDoor
open Go.RowKit Go.Maps
set_option linter.unusedVariables false
set_option linter.unusedSimpArgs false
set_option maxRecDepth 100000
set_option maxHeartbeats 4000000
def ptsAt (w:World) (b:Nat):Nat:=match w.cell? ⟨b,7,none⟩ with
 | some (.slice _ n _)=>n
 | _=>0
theorem ptsAt_is {w:World} {b:Nat} {a:Option Addr} {n k:Nat}(h:w.cell? ⟨b,7,none⟩=some (.slice a n k)):ptsAt w b=n:=by unfold ptsAt;rw[h]
structure WInv (w w2 wr:World) (c:FC) (x:FM) (t:Nat) (y:TM) (q K k:Nat) (z:List Int) (nbk:Nat) (N:Nd) (L:Int) (Y:TM) (v:Value):Prop where
 tx:TX w wr c x t Y
 wl:WLoop y q k z nbk Y
 row:Row wr nbk 120 (ndA { N with sz:=L,pv:=v,ps:=pts q K k })
 av:At (Value.int .i64) 0 wr v (pts q K k)
 ow:∀j,v.ownBlock=some j→w2.heap.size≤j∧j<wr.heap.size
 up:Upd (fun j=>tMut t y j∨j=nbk) w2 wr
section
variable {w:World} {c:FC} {x:FM}
attribute [local go_sem ↓] ld_ino st_ino2 apI8_eq
theorem writeF_is (h:FSt w c x)(hk:(x.nd 1).k=1)(hps:(x.nd 1).ps=[])(hsz:(x.nd 1).sz=0) {q K:Nat}(hy:FileY x q K) {v:Value} {z:List Int}(hz:At (Value.int .u8) 0 w v z)(hz1:1≤z.length)(hz2:z.length≤256)(hK:K=(z.length-1) / 64+1)
  (hok:∀v8,NdOk { x.nd 1 with sz:=z.length,pv:=v8,ps:=pts q K K }) :
  Calls Tryz.prog 60 #[.pointer (some ⟨c.F,0,none⟩),.int .i64 2,.int .i64 0,v] w fun e w'=>e=.returned (.tuple #[.int .i64 z.length,.int .i64 0])∧∃x',WroteF w w' c x q K z x':=by
 have HH:=Lib.hid h
 have HY:=Lib.hid hy
 have HOK:=Lib.hid hok
 have HFI:=Lib.hid (fileF_is h (i:=1) (by decide) (n:=2) rfl hk)
 have HZ:=Lib.hid hz
 have HX:=Lib.hid (And.intro hps (And.intro hsz (And.intro hz1 (And.intro hz2 hK))))
 obtain⟨az,cz,rfl,lz,mz,-⟩:=hz
 rcases At.cellB HZ.out with e|⟨zb,zo,rfl,hzb,hzc⟩
 ·rw[e] at hz1;simp at hz1
 have HZC:=Lib.hid (And.intro hzb hzc)
 clear hzb hzc
 obtain⟨L,hL⟩:∃L,L=z.length:=⟨_,rfl⟩
 rw[← hL] at hz1 hz2 lz hK ⊢
 have HL:=Lib.hid hL
 have hK4:K≤4:=by omega
 have HK4:=Lib.hid hK4
 have HBL:=Lib.hid (fun w=>blocks_is w L hz1 (by omega))
 rw[← hK] at HBL
 have mcz:(cz:Int)≤9223372036854775807:=by unfold maxLen at mz;omega
 have i1:¬(512:Int)<L:=by omega
 have i2:IntKind.i64.wrap (512-(L:Int))=512-L:=IntWalk.i64_in _ (by omega)
 have i3:¬(512-(L:Int))<0:=by omega
 have i4:((L:Int) == 0)=false:=by simp;omega
 have i5:IntKind.i64.wrap (0+(L:Int))=L:=by rw[IntWalk.i64_in _ (by omega)];omega
 have i6:IntKind.i64.wrap (L:Int)=L:=IntWalk.i64_in _ (by omega)
 have i7:¬(L:Int)=0:=by omega
 have HBG:=Lib.hid (begin_is h)
 have HKL:=Lib.hid hK
 clear h hk hps hsz hy hok hL hK
 go_enter Tryz.func60,Tryz.ntmps60
 go_upto_region 11 with (first|(go_at_call 126;(with_reducible refine HFI.out.mono ?_);rintro e0 w0 ⟨rfl,rfl⟩)|(go_at_call 53;(with_reducible refine HBG.out.mono ?_);rintro e5 w1 ⟨t,gN0,cN,db,pb,rfl,hT1⟩))
 have HT1:=Lib.hid hT1
 have HN:Hid (Calls Tryz.prog 116 #[.pointer (some ⟨t,0,none⟩),.int .i64 2] w1 fun e w'=>e=.returned (.agg (ndA (x.nd 1)))∧Below w1.heap.size w1 w'):=Lib.hid (node_is hT1 (i:=1) (by decide) (n:=2) rfl)
 have hone:=ndA_one (x.nd 1) (ip_one (HH.out.ps 1 (by decide)).1)
 have HPV:=Lib.hid (HH.out.ps 1 (by decide)).1.a
 obtain⟨N,hNd⟩:∃N,N=x.nd 1:=⟨_,rfl⟩
 rw[← hNd] at HN HOK HX HPV hone
 have HD:=Lib.hid hNd
 have hsn:=fun w=>st0_new w (T:=120) (c:=#[.int .i64 0,.int .i64 0,.int .i64 0,.int .i64 0,.int .i64 0,.int .i64 0,.int .i64 0,.slice none 0 0]) (cs:=ndA N) rfl (by rw[ndA_size];kernel_rfl) hone
 clear hT1 hNd hone HFI HBG
 go_upto_region 12 with (go_at_call 116;(with_reducible refine HN.out.mono ?_);rintro e2 w2 ⟨rfl,hb2⟩)
 have hr3:=row_new w2 120 (ndA N)
 have hb3:Below w1.heap.size w1 (w2.alloc (.cells (ndA N) 120)):=hb2.trans ((Go.Joins.below_alloc1 w2 _).mono hb2.size)
 have HNK:Hid (w1.heap.size≤w2.heap.size):=Lib.hid hb2.size
 clear hsn HN hb2
 generalize w2.alloc (.cells (ndA N) 120)=w3 at *
 generalize w2.heap.size=nbk at *
 have hwb:Below w.heap.size w w1:=HT1.out.bl
 have hA3:At (Value.int .i64) 0 w3 N.pv []:=by
  have:=HPV.out.keep (hwb.trans (hb3.mono hwb.size))
  rw[HX.out.1] at this
  exact this
 have c7:w3.cell? ⟨nbk,7,none⟩=some N.pv:=by rw[hr3.cell];rfl
 have HB3:=Lib.hid hb3
 have HR3:=Lib.hid hr3
 have HLT:Hid (nbk<w3.heap.size∧w.heap.size≤w1.heap.size):=Lib.hid ⟨hr3.lt,hwb.size⟩
 have HCL:=Lib.hid (cloneI_is (by decide) hA3)
 clear hb3 hr3 hwb
 obtain⟨ap,cp,hpv,-,mcp,-⟩:=hA3
 rw[hpv] at c7
 have HCL:Hid (Calls Tryz.prog 127 #[.slice ap 0 cp] w3 (CloneI [] w3)):=Lib.hid (by have:=HCL.out;rw[hpv] at this;exact this)
 have mcp':(cp:Int)≤9223372036854775807:=by unfold maxLen at mcp;omega
 go_upto_region 14 with (go_at_call 127;(with_reducible refine HCL.out.mono ?_);rintro e4 w4 ⟨v4,rfl,ho4,hb4⟩;obtain⟨p4,c4,rfl⟩:=own_form ho4;have z7:=(HR3.out.keep hb4).fz 7;have y7:w4.cell? ⟨nbk,7,none⟩=some N.pv:=(HR3.out.keep hb4).cell 7)
 have hT4:TX w (w4.setCell ⟨nbk,7,none⟩ (.slice p4 0 c4)) c x t (tm0 x gN0 cN db pb):=HT1.out.fresh (HT1.out.keep (HB3.out.trans (hb4.mono HB3.out.size))) (j:=nbk) HNK.out (Upd.set w4 _ rfl)
 have hR4:Row (w4.setCell ⟨nbk,7,none⟩ (.slice p4 0 c4)) nbk 120 (ndA { N with pv:=.slice p4 0 c4,ps:=[] }):=by
  rw[(HR3.out.keep hb4).setCell]
  exact(HR3.out.keep hb4).setRow _
 have hgn:∀j,(Value.slice p4 0 c4).ownBlock=some j→¬j=nbk:=fun j e q=>by have:=(ho4.lt j e).1;have:=HLT.out.1;omega
 have hO4:(w4.setCell ⟨nbk,7,none⟩ (.slice p4 0 c4)).ownsRow w3.heap.size 3 1 (.slice p4 0 c4) (List.replicate 0 (0:Int)).length ((List.replicate 0 (0:Int)).map i64V):=(Upd.set (S:=fun j=>j=nbk) w4 (b:=nbk) (i:=7) (.slice p4 0 c4) rfl).owns ho4 hgn
 have hU4:Upd (fun j=>tMut t (tm0 x gN0 cN db pb) j∨j=nbk) w3 (w4.setCell ⟨nbk,7,none⟩ (.slice p4 0 c4)):=(Upd.below hb4).trans (Upd.set w4 _ (.inr rfl))
 have HT4:=Lib.hid hT4
 have HR4:=Lib.hid hR4
 have HO4:=Lib.hid hO4
 have HU4:=Lib.hid hU4
 clear hT4 hR4 hO4 hU4 hgn ho4 hb4 z7 y7 c7 HCL HR3
 generalize w4.setCell ⟨nbk,7,none⟩ (.slice p4 0 c4)=w5 at *
 go_loopw [] (fun wr=>∃j v,j≤K∧Hid (Row wr nbk 120 (ndA { N with pv:=v,ps:=[] }))∧Hid (wr.ownsRow w3.heap.size 3 1 v j ((List.replicate j (0:Int)).map i64V))∧Hid (TX w wr c x t (tm0 x gN0 cN db pb))∧Hid (Upd (fun j=>tMut t (tm0 x gN0 cN db pb) j∨j=nbk) w3 wr)) (fun wr=>K-ptsAt wr nbk)
 case atStart=>exact⟨0,_,by omega,HR4,HO4,HT4,HU4⟩
 case round=>
  clear HT4 HR4 HO4 HU4
  obtain⟨j,v,hj0,HR,HO,HT,HU⟩:=hrel
  obtain⟨pv,cv,rfl⟩:=own_form HO.out
  have c7:wr.cell? ⟨nbk,7,none⟩=some (.slice pv j cv):=HR.out.cell 7
  have c4:wr.cell? ⟨nbk,4,none⟩=some (.int .i64 0):=by rw[HR.out.cell,← HX.out.2.1];rfl
  have hcv:(cv:Int)≤9223372036854775807:=by
   have:=owns_cap HO.out
   unfold maxLen at this
   omega
  by_cases hj:j<K
  ·have j1:(j:Int)<K:=by omega
   go_upto_region 14 with fail
   go_quiet (first|(go_at_call 128;refine Calls.quiet_of_same ((HBL.out _).mono (fun e w' h=>⟨h.1,h.2.symm⟩))))
   rename_i nq
   have HRd:=Lib.hid (HR.out.drewN nq)
   have HOd:=Lib.hid (owns_keep HO.out (below_drewN (Below.refl _ _) nq))
   have HTd:=Lib.hid (HT.out.keep (below_drewN (Below.refl _ _) nq))
   have HUd:=Lib.hid (HU.out.trans (Upd.drewN wr nq))
   have d7:(wr.drewN nq).cell? ⟨nbk,7,none⟩=some (.slice pv j cv):=HRd.out.cell 7
   generalize wr.drewN nq=wd at *
   have hsz:w3.heap.size≤wd.heap.size:=HUd.out.size
   obtain⟨v6,w6,hap,ho6,hg6,hb6⟩:=apI_push (w:=wd) (l:=List.replicate j (0:Int)) (by rw[List.length_replicate];exact HOd.out) hsz 0 (by simp;omega)
   obtain⟨p6,c6,rfl⟩:=own_form ho6
   have e6:(List.replicate j (0:Int)++[0]).length=j+1:=by simp
   rw[rep_next] at ho6
   simp only[List.length_replicate] at ho6
   rw[e6] at hap
   have hap:(apI8 #[.slice pv j cv,.slice (some ⟨wd.heap.size,0,none⟩) 1 1]).run Tryz.prog (wd.alloc (.cells #[.int .i64 0] 3))=.ok (.slice p6 (j+1) c6) w6:=hap
   have hr6:Row w6 nbk 120 (ndA { N with pv:=.slice pv j cv,ps:=[] }):=HRd.out.keepB hb6 HLT.out.1
   have z7:=hr6.fz 7
   have y7:w6.cell? ⟨nbk,7,none⟩=some (.slice pv j cv):=hr6.cell 7
   have h13:w1.heap.size≤w3.heap.size:=HB3.out.size
   have hT6:TX w w6 c x t (tm0 x gN0 cN db pb):=HT1.out.fresh2 HTd.out ((Upd.ofBelow hb6).mono fun i _ e=>Nat.le_trans h13 e)
   have hU6:Upd (fun j=>tMut t (tm0 x gN0 cN db pb) j∨j=nbk) w3 w6:=HUd.out.trans' (Upd.ofBelow hb6) (fun i hi e=>by omega)
   have hu7:Upd (fun k=>k=nbk) w6 (w6.setCell ⟨nbk,7,none⟩ (.slice p6 (j+1) c6)):=Upd.set w6 _ rfl
   have HT7:Hid (TX w (w6.setCell ⟨nbk,7,none⟩ (.slice p6 (j+1) c6)) c x t (tm0 x gN0 cN db pb)):=Lib.hid (HT1.out.fresh hT6 HNK.out hu7)
   have HR7:Hid (Row (w6.setCell ⟨nbk,7,none⟩ (.slice p6 (j+1) c6)) nbk 120 (ndA { N with pv:=.slice p6 (j+1) c6,ps:=[] })):=Lib.hid (by
        rw[hr6.setCell]
        exact hr6.setRow _)
   have HO7:Hid ((w6.setCell ⟨nbk,7,none⟩ (.slice p6 (j+1) c6)).ownsRow w3.heap.size 3 1 (.slice p6 (j+1) c6) (j+1) ((List.replicate (j+1) (0:Int)).map i64V)):=Lib.hid (by
        exact hu7.owns ho6 (fun g e q=>by have:=(ho6.lt g e).1;have:=HLT.out.1;omega))
   have HU7:=Lib.hid (hU6.trans (hu7.mono fun i _ e=>.inr e))
   clear ho6 hg6 hb6 hr6 hT6 hU6 hu7 HR HO HT HU HRd HOd HTd HUd hsz h13
   go_wp2_with fail
   go_roundw
   case rel=>exact⟨j+1,_,by omega,HR7,HO7,HT7,HU7⟩
   case measure=>
    rw[ptsAt_is c7,ptsAt_is (HR7.out.cell 7)]
    omega
  ·obtain rfl:K=j:=by omega
   go_upto_region 14 with fail
   go_quiet (first|(go_at_call 128;refine Calls.quiet_of_same ((HBL.out _).mono (fun e w' h=>⟨h.1,h.2.symm⟩))))
   rename_i nq
   have HRd:=Lib.hid (HR.out.drewN nq)
   have HOd:=Lib.hid (owns_keep HO.out (below_drewN (Below.refl _ _) nq))
   have HTd:=Lib.hid (HT.out.keep (below_drewN (Below.refl _ _) nq))
   have HUd:=Lib.hid (HU.out.trans (Upd.drewN wr nq))
   have d4:(wr.drewN nq).cell? ⟨nbk,4,none⟩=some (.int .i64 0):=by rw[HRd.out.cell,← HX.out.2.1];rfl
   generalize wr.drewN nq=wd at *
   have z4:=HRd.out.fz 4
   clear HR HO HT HU c7 c4
   have hu8:Upd (fun k=>k=nbk) wd (wd.setCell ⟨nbk,4,none⟩ (.int .i64 (L:Int))):=Upd.set wd _ rfl
   have HW8:Hid (WInv w w3 (wd.setCell ⟨nbk,4,none⟩ (.int .i64 (L:Int))) c x t (tm0 x gN0 cN db pb) q K 0 z nbk N L (tm0 x gN0 cN db pb) (.slice pv K cv)):=Lib.hid ⟨HT1.out.fresh HTd.out HNK.out hu8,WLoop.zero (fun p s e=>by cases e),by
          rw[HRd.out.setCell]
          exact HRd.out.setRow _,by
          rw[pts_zero]
          have:=at_of_owned (f:=Value.int .i64) (d:=0) (xs:=List.replicate K 0) (by rw[List.length_replicate];exact hu8.owns HOd.out (fun g e q=>by have:=(HOd.out.lt g e).1;have:=HLT.out.1;omega))
          exact this,fun j e=>⟨(HOd.out.lt j e).1,Nat.lt_of_lt_of_le (HOd.out.lt j e).2 hu8.size⟩,HUd.out.trans (hu8.mono fun i _ e=>.inr e)⟩
   have q5:((L:Int)-1).tdiv 64=(K:Int)-1:=by
    have:=HKL.out
    rw[Int.tdiv_eq_ediv_of_nonneg (by omega)]
    omega
   have y5:IntKind.i64.wrap ((L:Int)-1)=L-1:=IntWalk.i64_in _ (by omega)
   have y6:IntKind.i64.wrap ((K:Int)-1)=K-1:=IntWalk.i64_in _ (by omega)
   clear HRd HOd HTd HUd hu8 hcv
   go_upto_region 17 with fail
   generalize wd.setCell ⟨nbk,4,none⟩ (.int .i64 (L:Int))=w8 at *
   clear d4 z4
   go_wp2_with fail
   go_loopw [14] (fun kv wr=>∃k Y v,k≤K∧kv=.int .i64 (k:Nat)∧Hid (WInv w w3 wr c x t (tm0 x gN0 cN db pb) q K k z nbk N L Y v)) (fun kv _=>K-(intOf kv).toNat)
   case atStart=>exact⟨0,_,_,by omega,by first|rfl|simp,HW8⟩
   case round=>
    clear HW8
    obtain⟨k,Y,v,hk0,rfl,HW⟩:=hrel
    by_cases hk:k<K
    ·have k1:(k:Int)≤(K:Int)-1:=by omega
     have k0:(0:Int)≤k:=by omega
     have l2:=HW.out.row.ld0 Tryz.underlying120 rfl (by rw[ndA_size];kernel_rfl)
     have HBK:=Lib.hid (block_is HW.out.tx (n:={ N with sz:=L,pv:=v,ps:=pts q K k }) HW.out.av (pts_in HY.out.free.hi) k (by omega))
     have eb:bsec x Y (pts q K k) k=zeros 64:=by
      unfold bsec
      rw[pts_get hk,if_neg (Nat.lt_irrefl _),if_pos rfl]
     have HBK:Hid (Calls Tryz.prog 129 #[.pointer (some ⟨t,0,none⟩),.agg (ndA { N with sz:=L,pv:=v,ps:=pts q K k }),.int .i64 k] wr fun e w'=>∃v,e=.returned v∧NewB (zeros 64) wr v w'):=Lib.hid (by have:=HBK.out;rw[← eb];exact this)
     generalize ndA { N with sz:=L,pv:=v,ps:=pts q K k }=An at l2 HBK
     go_upto_region 21 with (go_at_call 129;(with_reducible refine HBK.out.mono ?_);rintro e9 w9 ⟨v9,rfl,ho9,hb9⟩)
     obtain⟨g,cg,rfl,hg0,hg1,hwb⟩:=WB.of_own ho9 (by rw[zeros_len])
     have HBo:Hid (Below w.heap.size w wr):=Lib.hid ((HT1.out.bl.trans (HB3.out.mono HT1.out.bl.size)).trans (HW.out.up.toBelow (Nat.le_trans HLT.out.2 HB3.out.size) (fun j hj e=>by
            rcases e with e|e
            · have:=(HT1.out.mlt e).1;omega
            · have:=HNK.out;have:=HLT.out.2;omega)))
     have HB9:=Lib.hid hb9
     have HG:=Lib.hid (And.intro hg0 hg1)
     have HWB:Hid (WB w9 g cg (secP z k 0)):=Lib.hid (by rw[secP_zero];exact hwb)
     obtain⟨wo,hwo⟩:∃wo:World,wo=wr:=⟨_,rfl⟩
     subst hwo
     clear ho9 hb9 hg0 hg1 hwb HBK l2 eb
     have y1:IntKind.i64.wrap (64*(k:Int))=64*k:=IntWalk.i64_in _ (by omega)
     go_wp2_with fail
     go_loopw [86] (fun iv wr=>∃i:Nat,i≤64∧iv=.int .i64 i∧Hid (WB wr g cg (secP z k i))∧Hid (Upd (fun j=>j=g) w9 wr)) (fun iv _=>64-(intOf iv).toNat)
     case atStart=>exact⟨0,by omega,rfl,HWB,Lib.hid (Upd.refl _ _)⟩
     case round=>
      clear HWB
      obtain⟨i,hi0,rfl,HB,HU⟩:=hrel
      by_cases hi:i<64
      ·have i64:(i:Int)<64:=by omega
       have i00:(0:Int)≤i:=by omega
       obtain⟨m,hm⟩:∃m,m=64*k+i:=⟨_,rfl⟩
       have y2:IntKind.i64.wrap (64*(k:Int)+i)=m:=by rw[IntWalk.i64_in _ (by omega)];omega
       have y3:IntKind.i64.wrap (m:Int)=m:=IntWalk.i64_in _ (by omega)
       have m0:(0:Int)≤m:=by omega
       have HM:=Lib.hid hm
       clear hm
       by_cases hmL:m<L
       ·have m1:(m:Int)<L:=by omega
        have hcb:=HB.out.cell hi
        have hcf:=HB.out.fz i
        have hcz:wr.cell? ⟨zb,zo+m,none⟩=some (.int .u8 (z.getD m 0)):=by
         have hbb:Below w.heap.size w wr:=HBo.out.trans ((HB9.out.mono HBo.out.size).trans (HU.out.toBelow (Nat.le_trans HBo.out.size HB9.out.size) (fun j hj e=>by have e:j=g:=e;have:=HG.out.1;have:=HBo.out.size;omega)))
         exact(hbb.cell (p:=⟨zb,zo+m,none⟩) HZC.out.1).trans (HZC.out.2 m (by rw[← HL.out];exact hmL))
        have HBn:Hid (WB (wr.setCell ⟨g,i,none⟩ (.int .u8 (z.getD m 0))) g cg (secP z k (i+1))):=Lib.hid (by
                  have:=HB.out.set hi (z.getD m 0)
                  rw[HM.out,secP_next z k hi] at this
                  rw[HM.out]
                  exact this)
        have HUn:Hid (Upd (fun j=>j=g) w9 (wr.setCell ⟨g,i,none⟩ (.int .u8 (z.getD m 0)))):=Lib.hid (HU.out.trans (Upd.set wr _ rfl))
        generalize z.getD m 0=zm at *
        go_wp2_with fail
        go_roundw
        case rel=>exact⟨i+1,by omega,by go_num,HBn,HUn⟩
        case measure=>simp[intOf];omega
       ·have m1:¬(m:Int)<L:=by omega
        have HBn:Hid (WB wr g cg (secP z k (i+1))):=Lib.hid (by
                  rw[secP_stay z k (by rw[← HM.out,← HL.out];omega)]
                  exact HB.out)
        go_wp2_with fail
        go_roundw
        case rel=>exact⟨i+1,by omega,by go_num,HBn,HU⟩
        case measure=>simp[intOf];omega
      ·obtain rfl:i=64:=by omega
       have hgw:wo.heap.size≤g:=HG.out.1
       have hwo:w.heap.size≤wo.heap.size:=HBo.out.size
       have hnw:=HW.out.row.lt
       have hT:TX w wr c x t Y:=HW.out.tx.fresh (HW.out.tx.keep HB9.out) hgw HU.out
       have hr:=(HW.out.row.keep HB9.out).upd HU.out (by show ¬nbk=g;omega)
       have hav:At (Value.int .i64) 0 wr v (pts q K k):=(HW.out.av.keep HB9.out).upd8 HU.out (fun j e q=>by have q:j=g:=q;have:=(HW.out.ow j e).2;omega)
       have hmt:=HW.out.wl.mt t
       have hnd:=HW.out.wl.nd
       have hnm:¬tMut t Y nbk:=fun e=>by rw[hmt] at e;have:=(HT1.out.mlt e).2;have:=HNK.out;omega
       have hnb:w.heap.size≤nbk:=by have:=HNK.out;have:=HLT.out.2;omega
       have hwb:=HB.out
       rw[secP_all] at hwb
       have hIm:Im (fun j=>fMut c x j∨tMut t Y j) wr (encS (some (g,0,64,cg))) (secW z k):=⟨hwb.at,fun j e q=>by
                have e:g=j:=by simpa [encS,Value.ownBlock] using e
                subst e
                rcases q with q|q
                · have:=HH.out.lt _ (HH.out.bm _ q);omega
                · have:=(HW.out.tx.mlt q).2;omega⟩
       have hFst:Fst Y.G (q+k):=by
        rw[HW.out.wl.G]
        exact(HY.out.free.gN k (by omega)).fst (by omega)
       have HWR:=Lib.hid (wrote_is hT hr hnm hnb hav (k:=k) (by show k<(pts q K k).length;rw[pts_len];exact hk) (by show (pts q K k).length≤1000;rw[pts_len];omega) (q:=q+k) (G':=gOn Y.G (q+k)) (.inl ⟨by show (pts q K k).getD k 0=0;rw[pts_get hk,if_neg (Nat.lt_irrefl _)],hFst,rfl⟩) ⟨fun i hi e=>by rw[hnd] at e;have:=(HT1.out.ps i hi).lt nbk e;have:=HNK.out;omega,HW.out.wl.pn⟩ hIm (secW_len _ _) (by show w.heap.size≤g;omega) (by show g≠nbk;omega) (by rw[HW.out.wl.np];show 0+k<1000;omega))
       have HWR:Hid (Calls Tryz.prog 130 #[.pointer (some ⟨t,0,none⟩),.pointer (some ⟨nbk,0,none⟩),.int .i64 k,.slice (some ⟨g,0,none⟩) 64 cg] wr fun e w'=>e=.returned (.tuple #[])∧WroteT w wr c x t Y nbk { N with sz:=L,pv:=v,ps:=pts q K k } k (q+k) (gOn Y.G (q+k)) (g,0,64,cg) (secW z k) w'):=Lib.hid HWR.out
       clear hT hr hav hnm hwb hIm hFst hnd hmt
       go_upto_region 19 with (go_at_call 130;(with_reducible refine HWR.out.mono ?_);rintro e10 w10 ⟨rfl,v10,hT10,hr10,ha10,hf10,hu10⟩)
       have hz3:w3.heap.size≤wo.heap.size:=HW.out.up.size
       have hu3:Upd (fun j=>tMut t (tm0 x gN0 cN db pb) j∨j=nbk) w3 w10:=((HW.out.up.trans (Upd.below HB9.out)).trans' HU.out (fun j hj e=>by have e:j=g:=e;omega)).trans (hu10.mono fun j _ e=>by rw[HW.out.wl.mt t] at e;exact e)
       have HW10:Hid (WInv w w3 w10 c x t (tm0 x gN0 cN db pb) q K (k+1) z nbk N L { Y with G:=gOn Y.G (q+k),pt:=fun j=>if j=((q+k:Nat):Int) then some (g,0,64,cg) else Y.pt j,np:=Y.np+1,pby:=fun j=>if j=((q+k:Nat):Int) then secW z k else Y.pby j } v10):=Lib.hid ⟨hT10,HW.out.wl.step (by show g≠nbk;omega),by
                  rw[← pts_set hk]
                  exact hr10,by
                  rw[← pts_set hk]
                  exact ha10,fun j e=>⟨Nat.le_trans hz3 (Nat.le_trans HB9.out.size (Nat.le_trans HU.out.size (hf10 j e).1)),(hf10 j e).2⟩,hu3⟩
       have y7:IntKind.i64.wrap ((k:Int)+1)=k+1:=IntWalk.i64_in _ (by omega)
       clear hT10 hr10 ha10 hf10 hu10 hu3 HWR hnb
       go_wp2_with fail
       go_roundw
       case rel=>exact⟨k+1,_,v10,by omega,by first|go_num|simp,HW10⟩
       case measure=>simp[intOf];omega
    ·obtain rfl:k=K:=by omega
     have k1:¬(k:Int)≤(k:Int)-1:=by omega
     have l2:=HW.out.row.ld0 Tryz.underlying120 rfl (by rw[ndA_size];kernel_rfl)
     have hmt:=HW.out.wl.mt t
     have hIp:Ip (fun j=>fMut c x j∨tMut t Y j∨(¬x.bs j∧j<w.heap.size)) wr { N with sz:=L,pv:=v,ps:=pts q k k }:=⟨HW.out.av,fun j e q=>by
            have h1:=(HW.out.ow j e).1
            have h2:=HB3.out.size
            have h3:=HLT.out.2
            rcases q with q|q|q
            · have:=HH.out.lt _ (HH.out.bm _ q);omega
            · rw[hmt] at q;have:=(HT1.out.mlt q).2;omega
            · omega,fun j e=>(HW.out.ow j e).2⟩
     have HSE:=Lib.hid (set_is HW.out.tx (i:=1) (by decide) (n:=2) rfl hIp (by rw[HW.out.wl.nb];show (0:Nat)<1000;decide))
     have HEN:=Lib.hid (fun w8 (hT:TX w w8 c x t { Y with nd:=ups1 Y.nd 1 { N with sz:=L,pv:=v,ps:=pts q k k },dy:=fun j=>if j=2 then some () else Y.dy j,nb:=Y.nb+1 })=>wend_is hT HW.out.wl rfl rfl (fun _=>rfl) rfl rfl (fun _=>rfl) (v8:=v) (by rw[HD.out,HL.out]) (by have:=HOK.out v;rw[← HL.out] at this;exact this) HY.out HK4.out (Below.refl w.heap.size w))
     generalize hAn:ndA { N with sz:=L,pv:=v,ps:=pts q k k }=An at l2 HSE
     have HAn:=Lib.hid hAn
     clear hAn hmt hIp
     go_upto_region 30 with (go_at_call 117;(with_reducible refine HSE.out.mono ?_);rintro e9 w9 ⟨rfl,hT9,hu9⟩)
     have HE9:=Lib.hid (HEN.out w9 hT9)
     clear hT9 hu9 HSE HEN l2
     go_wp2_with (go_at_call 55;(with_reducible refine HE9.out.mono ?_);rintro e10 w10 ⟨rfl,hM⟩)
     go_ret2
     exact⟨rfl,hM⟩
end
theorem method_rd (v:Value) (w:World):(method 618 350 v "Read").run Tryz.prog w=.ok (425,v) w:=by kernel_rfl
theorem At.sub {w:World} {l:List Int} {b o n c:Nat}(h:At (Value.int .u8) 0 w (.slice (some ⟨b,o,none⟩) n c) l) {lo k:Nat}(hk:lo+k≤l.length)(hb:b<w.heap.size):At (Value.int .u8) 0 w (.slice (some ⟨b,o+lo,none⟩) k (c-lo)) ((l.drop lo).take k):=by
 obtain⟨a,c',e,h1,h2,h3⟩:=h
 injection e with e1 e2 e3
 subst e1 e2 e3
 have hl:((l.drop lo).take k).length=k:=by rw[List.length_take,List.length_drop];omega
 refine⟨_,c-lo,by rw[hl],by rw[hl];omega,by omega,?_⟩
 rcases h3 with e|⟨b',o',e,hb,hc⟩
 ·left
  subst e
  simp
 ·injection e with e
  injection e with e4 e5
  subst e4 e5
  refine .inr ⟨_,_,rfl,hb,fun i hi=>?_⟩
  rw[hl] at hi
  rw[show o+lo+i=o+(lo+i) by omega,hc (lo+i) (by omega)]
  congr 2
  simp[List.getD,List.getElem?_take,hi,List.getElem?_drop]
theorem OB.takeN {w:World} {B n c k:Nat} {p:Option Addr} {l:List Int}(h:OB B w (.slice p n c) l)(hl:l.length=n)(hk:k≤n):OB B w (.slice p k c) (l.take k):=by
 unfold OB at h ⊢
 rw[hl] at h
 rcases Nat.eq_zero_or_pos n with e|e
 ·have hk0:k=0:=by omega
  subst hk0
  subst e
  have hl0:l=[]:=List.length_eq_zero_iff.1 hl
  subst hl0
  exact h
 ·have hlk:(l.take k).length=k:=by rw[List.length_take];omega
  rw[hlk,List.map_take]
  exact owns_take h hk e
def catP (x:FM) (ps:List Int):List Int:=ps.flatMap fun p=>fsec x p.toNat
section
variable {w:World} {c:FC} {x:FM}
theorem catP_len (h:FSt w c x):∀ps:List Int,(∀p∈ps,0<p∧p<256)→(catP x ps).length=64*ps.length
 | [],_=>rfl
 | p::ps,hp=>by
  have ih:=catP_len h ps (fun q hq=>hp q (List.mem_cons_of_mem _ hq))
  have h1:=hp p (List.mem_cons_self ..)
  have h2:=fsec_len h (p:=p.toNat) (by omega)
  unfold catP at ih ⊢
  rw[List.flatMap_cons,List.length_append,h2,ih,List.length_cons]
  omega
theorem catP_next (x:FM) (ps:List Int) {k:Nat}(hk:k<ps.length):catP x (ps.take (k+1))=catP x (ps.take k)++fsec x (ps.getD k 0).toNat:=by
 unfold catP
 rw[List.take_add_one,List.flatMap_append,List.getElem?_eq_getElem hk]
 simp[hk]
theorem rread_is (h:FSt w c x) {p:Nat}(hp:p<256) {n:Int}(hn:n=p):Calls Tryz.prog 425 #[.agg #[.pointer (some ⟨c.F,0,none⟩)],.int .i64 n] w fun e w'=>∃v,e=.returned (.tuple #[v,.int .i64 0])∧NewB (fsec x p) w v w':=by
 have hal:=Go.Joins.below_alloc1 w (.cells #[.pointer (some ⟨c.F,0,none⟩)] 350)
 have hr:=row_new w 350 #[.pointer (some ⟨c.F,0,none⟩)]
 have c0:(w.alloc (.cells #[.pointer (some ⟨c.F,0,none⟩)] 350)).cell? ⟨w.heap.size,0,none⟩=some (.pointer (some ⟨c.F,0,none⟩)):=by rw[hr.cell];rfl
 have HS:=Lib.hid (sectorF_is (h.keep hal) hp hn)
 have HB:=Lib.hid hal
 clear h hal hr hn
 go_enter Tryz.func425,Tryz.ntmps425
 go_upto_region 1 with fail
 generalize w.alloc (.cells #[.pointer (some ⟨c.F,0,none⟩)] 350)=w1 at *
 go_wp2_with (go_at_call 261;(with_reducible refine HS.out.mono ?_);rintro e2 w2 ⟨v2,rfl,ho2,hb2⟩)
 go_ret2
 exact⟨_,rfl,ho2.base HB.out.size,HB.out.trans (hb2.mono HB.out.size)⟩
attribute [local go_sem ↓] mkB_eq appB_eq
theorem bytesF_is (h:FSt w c x) {N:Nd}(ha:At (Value.int .i64) 0 w N.pv N.ps)(hp:∀p∈N.ps,0<p∧p<256)(hl:N.ps.length≤8) {L:Nat}(hsz:N.sz=L)(hL:L≤64*N.ps.length) :
  Calls Tryz.prog 227 #[.iface 350 (.agg #[.pointer (some ⟨c.F,0,none⟩)]),.agg (ndA N)] w fun e w'=>∃v,e=.returned v∧OB w.heap.size w' v ((catP x N.ps).take L)∧Below w.heap.size w w':=by
 have hmr:=method_rd
 have HH:=Lib.hid h
 have hal:=Go.Joins.below_alloc1 w (.cells (ndA N) 120)
 have hr:=row_new w 120 (ndA N)
 have hA:=ha.keep hal
 have HP:=Lib.hid hp
 have HCL:=Lib.hid (catP_len h N.ps hp)
 have HA:=Lib.hid hA
 have HSZ:=Lib.hid (And.intro hl (And.intro hsz hL))
 obtain⟨ap,cp,hpv,hlc,mcp,-⟩:=hA
 have HBC:=Lib.hid (At.cellI (hpv ▸ HA.out))
 clear HA
 have mcp':(cp:Int)≤9223372036854775807:=by unfold maxLen at mcp;omega
 obtain⟨n,hn⟩:∃n,n=N.ps.length:=⟨_,rfl⟩
 rw[← hn] at hpv hlc
 have HN:=Lib.hid hn
 have c7:(w.alloc (.cells (ndA N) 120)).cell? ⟨w.heap.size,7,none⟩=some (.slice ap n cp):=by rw[hr.cell,← hpv];rfl
 have c4:∀wx,Below (w.alloc (.cells (ndA N) 120)).heap.size (w.alloc (.cells (ndA N) 120)) wx→wx.cell? ⟨w.heap.size,4,none⟩=some (.int .i64 L):=fun wx hb=>by rw[(hr.keep hb).cell,← hsz];rfl
 have HC4:=Lib.hid c4
 have HB0:=Lib.hid hal
 clear h ha hp hl hsz hL hal hr hn c4
 go_enter Tryz.func227,Tryz.ntmps227
 go_upto_region 2 with fail
 generalize w.alloc (.cells (ndA N) 120)=w0 at *
 go_wp2_with fail
 go_loopw [5,14] (fun ov kv wr=>∃k v,k≤n∧v=ov∧kv=.int .i64 (k:Nat)∧Hid (Below w0.heap.size w0 wr)∧Hid (OB w0.heap.size wr v (catP x (N.ps.take k)))) (fun _ kv _=>n-(intOf kv).toNat)
 case atStart=>exact⟨0,_,by omega,rfl,rfl,Lib.hid (Below.refl _ _),Lib.hid (OB.nil _ _)⟩
 case round=>
  obtain⟨k,v,hk0,rfl,rfl,HB,HO⟩:=hrel
  by_cases hk:k<n
  ·have i0:(0:Int)≤k:=by omega
   have i1:(k:Int)<n:=by omega
   have hkn:k<N.ps.length:=by have:=HN.out;omega
   rcases HBC.out with e|⟨b,off,rfl,hb,hc⟩
   ·rw[e] at hkn;simp at hkn
   have hcj:=(HB.out.cell (p:=⟨b,off+k,none⟩) hb).trans (hc k hkn)
   obtain⟨p,hpk⟩:∃p,p=N.ps.getD k 0:=⟨_,rfl⟩
   have hpp:0<p∧p<256:=by
    rw[hpk]
    refine HP.out _ ?_
    rw[List.getD_eq_getElem?_getD,List.getElem?_eq_getElem hkn]
    exact List.getElem_mem hkn
   rw[← hpk] at hcj
   have HPK:=Lib.hid hpk
   obtain⟨pn,hpn⟩:∃pn:Nat,p=pn:=⟨p.toNat,by omega⟩
   subst hpn
   have p256:pn<256:=by omega
   have i2:¬(pn:Int)=0:=by omega
   have i3:((pn:Int) == 0)=false:=by simp;omega
   have hHr:FSt wr c x:=HH.out.keep (HB0.out.trans (HB.out.mono HB0.out.size))
   have hal1:=Go.Joins.below_alloc1 wr (.cells ((zeros 64).map u8V).toArray 5)
   have mk64:=mkB64 wr
   have HRD:=Lib.hid (rread_is (hHr.keep hal1) p256 (n:=(pn:Int)) rfl)
   have HFL:=Lib.hid (fsec_len hHr p256)
   have HTK:Hid ((catP x (N.ps.take k)).length=64*k):=Lib.hid (by rw[catP_len HH.out _ (fun q hq=>HP.out q (List.mem_of_mem_take hq)),List.length_take];omega)
   have HK8:Hid (k<8):=Lib.hid (by have:=HSZ.out.1;omega)
   have HAL:=Lib.hid hal1
   clear hc hpk hpp hHr hal1 hkn hb
   go_upto_region 10 with (go_at_call 425;(with_reducible refine HRD.out.mono ?_);rintro e5 w5 ⟨v5,rfl,ho5,hb5⟩)
   obtain⟨p5,c5,rfl⟩:=own_form ho5
   obtain⟨b5,o5,rfl,hc5⟩:=own_cells ho5 rfl (by rw[HFL.out];decide)
   have hfl:=HFL.out
   rw[hfl]
   have HB5:=Lib.hid (HAL.out.trans (hb5.mono HAL.out.size))
   obtain⟨p6,c6,w6,hap,ho6,hb6⟩:=(HO.out.keep HB5.out).app' (HB.out.trans (HB5.out.mono HB.out.size)).size (c:=c5) HFL.out hc5 (by rw[HTK.out];have:=HK8.out;omega)
   have HO6:Hid (OB w0.heap.size w6 (.slice p6 ((catP x (N.ps.take k)).length+64) c6) (catP x (N.ps.take (k+1)))):=Lib.hid (by
        rw[catP_next x N.ps (by have:=HN.out;omega),← HPK.out]
        exact ho6)
   have HB6:=Lib.hid (HB.out.trans ((HB5.out.mono HB.out.size).trans hb6))
   clear ho6 hb6 ho5 hb5 hc5 HRD mk64
   have hap:(appB #[v,.slice (some ⟨b5,o5,none⟩) 64 c5]).run Tryz.prog w5=.ok (.slice p6 ((catP x (N.ps.take k)).length+64) c6) w6:=hap
   go_wp2_with fail
   go_roundw
   case rel=>exact⟨k+1,_,by omega,rfl,by go_num,HB6,HO6⟩
   case measure=>simp[intOf];omega
  ·obtain rfl:k=n:=by omega
   have HO1:Hid (OB w0.heap.size wr v (catP x N.ps)):=Lib.hid (by
        have:=HO.out
        rw[HN.out,List.take_length] at this
        exact this)
   obtain⟨pv,cv,rfl⟩:=own_form HO1.out
   have HLN:=Lib.hid HCL.out
   have c4:=HC4.out wr HB.out
   have hcv:(cv:Int)≤9223372036854775807:=by have:=owns_cap HO1.out;unfold maxLen at this;omega
   obtain⟨M,hM⟩:∃M,M=(catP x N.ps).length:=⟨_,rfl⟩
   have hML:L≤M:=by rw[hM,HCL.out];exact HSZ.out.2.2
   rw[← hM]
   have hMc:M≤cv:=by
    obtain⟨a',c',e,h1,h2,h3⟩:=HO1.out.at
    injection e with e1 e2 e3
    rw[hM,e3];exact h1
   have i5:(L:Int)≤M:=by omega
   have i6:(L:Int)≤cv:=by omega
   have i7:min (M:Int) (L:Int)=L:=by omega
   have HR:Hid (OB w.heap.size wr (.slice pv L cv) ((catP x N.ps).take L)):=Lib.hid (by
        have h1:=HO1.out.base HB0.out.size
        rw[← hM] at h1
        exact h1.takeN hM.symm hML)
   clear HO1 HO hM hMc
   rcases Nat.lt_or_eq_of_le hML with hlt|rfl
   all_goals
    go_wp2_with fail
    go_ret
    exact⟨_,rfl,HR.out,HB0.out.trans (HB.out.mono HB0.out.size)⟩
theorem piece_is {v:Value} {l:List Int}(hv:At (Value.int .u8) 0 w v l)(hl:l.length≤512) {a n:Nat}(ha:a≤1000)(hn:n≤1000) :
  Calls Tryz.prog 226 #[v,.int .i64 a,.int .i64 n] w fun e w'=>∃v',e=.returned v'∧OB w.heap.size w' v' ((l.drop a).take n)∧Below w.heap.size w w':=by
 have HV:=Lib.hid hv
 obtain⟨p,cp,rfl,hlc,mcp,-⟩:=hv
 have hcp:(cp:Int)≤9223372036854775807:=by unfold maxLen at mcp;omega
 obtain⟨L,hL⟩:∃L,L=l.length:=⟨_,rfl⟩
 rw[← hL] at hl hlc ⊢
 have HL:=Lib.hid hL
 by_cases hal:L≤a
 ·have i1:(L:Int)≤a:=by omega
  have HR:Hid ((l.drop a).take n=[]):=Lib.hid (by rw[List.drop_eq_nil_of_le (by omega),List.take_nil])
  clear hL
  go_enter Tryz.func226,Tryz.ntmps226
  go_wp2_with fail
  go_ret
  exact⟨_,rfl,by rw[HR.out];exact OB.nil _ _,Below.refl _ _⟩
 ·have i1:¬(L:Int)≤a:=by omega
  rcases At.cellB HV.out with e|⟨b,o,rfl,hb,hc⟩
  ·rw[e] at hL;simp at hL;omega
  obtain⟨s,hs⟩:∃s,s=a+n:=⟨_,rfl⟩
  have y1:IntKind.i64.wrap ((a:Int)+n)=(s:Int):=by rw[IntWalk.i64_in _ (by omega)];omega
  have HV':At (Value.int .u8) 0 w (.slice (some ⟨b,o,none⟩) L cp) l:=by have:=HV.out;rw[← hL] at this;exact this
  by_cases hsL:s<L
  ·have i2:(s:Int)<L:=by omega
   have i3:¬(L:Int)≤s:=by omega
   have i4:(a:Int)≤s:=by omega
   have i5:(s:Int)≤L:=by omega
   have i6:(s:Int)≤cp:=by omega
   have HS:=Lib.hid (At.sub HV' (lo:=a) (k:=s-a) (by omega) hb)
   have HCL:=Lib.hid (cloneB_is (by simp;omega) HS.out)
   have HE:Hid (s-a=n):=Lib.hid (by omega)
   clear hc hb hL HV' hs
   go_enter Tryz.func226,Tryz.ntmps226
   go_wp2_with (go_at_call 105;(with_reducible refine HCL.out.mono ?_);rintro e1 w1 ⟨v1,rfl,ho1,hb1⟩)
   go_ret
   exact⟨_,rfl,by rw[← HE.out];exact ho1,hb1⟩
  ·have i3:(L:Int)≤s:=by omega
   have i2:¬(s:Int)<L:=by omega
   have i4:(a:Int)≤L:=by omega
   have i6:(L:Int)≤cp:=by omega
   have HS:=Lib.hid (At.sub HV' (lo:=a) (k:=L-a) (by omega) hb)
   have HCL:=Lib.hid (cloneB_is (by simp;omega) HS.out)
   have HE:Hid ((l.drop a).take (L-a)=(l.drop a).take n):=Lib.hid (by rw[List.take_of_length_le (by simp;omega),List.take_of_length_le (by simp;omega)])
   clear hc hb hL HV' hs
   go_enter Tryz.func226,Tryz.ntmps226
   go_wp2_with (go_at_call 105;(with_reducible refine HCL.out.mono ?_);rintro e1 w1 ⟨v1,rfl,ho1,hb1⟩)
   go_ret
   exact⟨_,rfl,by rw[← HE.out];exact ho1,hb1⟩
attribute [local go_sem ↓] ld_ino
theorem readF_is (h:FSt w c x) {i:Nat}(hi:i<32) {ni:Int}(hni:ni=i+1)(hk:(x.nd i).k=1)(hp:∀p∈(x.nd i).ps,0<p∧p<256)(hl:(x.nd i).ps.length≤8) {L:Nat}(hsz:(x.nd i).sz=L)(hL:L≤64*(x.nd i).ps.length) {a n:Nat}(ha:a≤1000)(hn:n≤512) :
  Calls Tryz.prog 156 #[.pointer (some ⟨c.F,0,none⟩),.int .i64 ni,.int .i64 a,.int .i64 n] w fun e w'=>∃v,e=.returned (.tuple #[v,.int .i64 0])∧OB w.heap.size w' v ((((catP x (x.nd i).ps).take L).drop a).take n)∧Below w.heap.size w w':=by
 have HFI:=Lib.hid (fileF_is h hi hni hk)
 have c4:=h.c4
 obtain⟨C,hC⟩:=h.nb
 have l1:=hC.ld hi
 have hcm:(x.cap:Int)≤9223372036854775807:=by have:=h.cp.2;unfold maxLen at this;omega
 have y1:IntKind.i64.wrap (ni-1)=i:=by rw[IntWalk.i64_in _ (by omega)];omega
 have i3:(i:Int)<32:=by omega
 have i0:(0:Int)≤i:=by omega
 have a0:¬(a:Int)<0:=by omega
 have n0:¬(n:Int)<0:=by omega
 have n1:¬(512:Int)<n:=by omega
 have HBY:=Lib.hid (bytesF_is h (h.ps i hi).1.a hp hl hsz hL)
 have HLC:Hid (((catP x (x.nd i).ps).take L).length≤512):=Lib.hid (by rw[List.length_take,catP_len h _ hp];omega)
 have HN:=Lib.hid (And.intro ha hn)
 generalize (catP x (x.nd i).ps).take L=bs at *
 generalize ndA (x.nd i)=A at *
 clear h hC hk hp hl hsz hL hn hni ha
 go_enter Tryz.func156,Tryz.ntmps156
 go_wp2_with (first|(go_at_call 126;(with_reducible refine HFI.out.mono ?_);rintro e0 w0 ⟨rfl,rfl⟩)|(go_at_call 227;(with_reducible refine HBY.out.mono ?_);rintro e2 w2 ⟨v2,rfl,ho2,hb2⟩;have HPC:=Lib.hid (piece_is (ho2.at) HLC.out (a:=a) (n:=n) HN.out.1 (by have:=HN.out.2;omega));have HB2:=Lib.hid hb2;clear ho2 hb2)|(go_at_call 226;(with_reducible refine HPC.out.mono ?_);rintro e3 w3 ⟨v3,rfl,ho3,hb3⟩))
 go_ret2
 exact⟨_,rfl,ho3.base HB2.out.size,HB2.out.trans (hb3.mono HB2.out.size)⟩
end
end Go.Proofs.YtfkepfncgdlgoaaGreatDoor
