/- The walk of fs's end: a call without sectors to give back. The walks of fs: entries, there, directory. The walks of package dir at a directory without entries, and with one ("f", 2): strings, names. The walks of package dir: the comparison of names, a row. The walks of package dir: TrimRight at a name, a row. -/
import Derived.Test.YtfkepfncgdlgoaaGreatDoorFsT
import Derived.Test.YtfkepfncgdlgoaaGreatDoorFsO
import Derived.Test.YtfkepfncgdlgoaaGreatDoorFsR
import Derived.Test.YtfkepfncgdlgoaaGreatDoorSnapU
import Derived.Lib.Bytealg
import Derived.Laws.IdiomStrings
import Derived.Deep.RegionHeld3
namespace Go.Proofs.YtfkepfncgdlgoaaGreatDoor
open Go.RowKit Go.Maps
set_option linter.unusedVariables false
set_option linter.unusedSimpArgs false
set_option maxRecDepth 100000
set_option maxHeartbeats 2000000
def ndB (x:Nd):List Int:=if x.k=0 then zeros 32 else ndL x
theorem ipackA_is {w:World} {x:Nd}(hp:At (Value.int .i64) 0 w x.pv x.ps)(hx:NdOk x∨x=nd0)(hpb:∀j,x.pv.ownBlock=some j→j<w.heap.size):Calls Tryz.prog 44 #[.agg (ndA x)] w fun e w'=>∃v l,e=.returned (.tuple #[v,.int .i64 0])∧OB w.heap.size w' v l∧l.length=32∧Below w.heap.size w w'∧l=ndB x:=by
 rcases hx with hx|rfl
 ·refine(ipackNb_is hp hx hpb).mono ?_
  rintro e w' ⟨g,l,rfl,hg,hb,hl,hbl,hnl⟩
  refine⟨_,l,rfl,?_,hl,hbl,by rw[hnl];unfold ndB;rw[if_neg (by have:=hx.k;omega)]⟩
  have:=ob_of_bk hb hg (by rw[hl];decide) (c:=32) hl.symm
  rw[hl] at this
  exact this
 ·refine(ipack0_is w).mono ?_
  rintro e w' ⟨v,rfl,ho,hb⟩
  exact⟨v,_,rfl,ho,zeros_len 32,hb,rfl⟩
def dirt (y:TM) (k:Nat):Bool:=(y.dy (2*(k:Int)+1)).isSome || (y.dy (2*(k:Int)+2)).isSome
def cntD (y:TM) (k:Nat):Nat:=((List.range k).filter (dirt y)).length
theorem cntD_next (y:TM) (k:Nat):cntD y (k+1)=cntD y k+(if dirt y k then 1 else 0):=by
 unfold cntD
 rw[List.range_succ,List.filter_append,List.length_append]
 cases e:dirt y k <;> simp[e]
theorem cntD_mono (y:TM) {j k:Nat}(h:j≤k):cntD y j≤cntD y k:=by
 induction k with
 | zero=>rw[Nat.le_zero.1 h];exact Nat.le_refl _
 | succ k ih=>
  by_cases e:j=k+1
  ·rw[e];exact Nat.le_refl _
  ·have:=ih (by omega)
   rw[cntD_next]
   omega
theorem cntD_le (y:TM) (k:Nat)(h:k<16):cntD y k≤cntD y 16:=cntD_mono y (by omega)
theorem encT_b (o:Option Unit):encT o=.bool o.isSome:=by cases o <;> rfl
section
variable {w0 w:World} {c:FC} {x:FM} {t:Nat} {y:TM}
theorem TX.same (h:TX w0 w c x t y) {k:Nat}(hk:k<16):w.cell? ⟨t,1+k,none⟩=some (.int .i64 (y.G k))∧w.frozen? ⟨t,1+k,none⟩=false∧TX w0 (w.setCell ⟨t,1+k,none⟩ (.int .i64 (y.G k))) c x t y:=by
 have e1:(txR c y)[1+k]?=some (.int .i64 (y.G k)):=by
  rw[txR_G c y (by omega)]
  unfold fV
  rw[if_pos (by omega)]
 refine⟨by rw[h.row.cell,e1],h.row.fz _,?_⟩
 have:=h.forest (G:=y.G) (A:=(txR c y).setIfInBounds (1+k) (.int .i64 (y.G k))) (by
    apply Array.ext_getElem?
    intro j
    rw[Array.getElem?_setIfInBounds]
    by_cases e:1+k=j
    · subst e
      rw[if_pos rfl,if_pos (by rw[txR_size];omega),e1]
    · rw[if_neg e]) h.lone h.fr
 rw[h.row.setCell]
 exact this
theorem TX.lookD (h:TX w0 w c x t y) {n:Int}(hn:(Lit.int .i64 n).wf=true):(Instr.lookup 241 (.map (some y.db)) (.int .i64 n) false).run Tryz.prog w=.ok (.bool (y.dy n).isSome) w:=by
 have:=h.db.look (T:=241) Tryz.underlying241 (zeroT w) hn
 rw[← encT_b]
 exact this
structure EndX (x:FM) (y:TM) (P:Int→Option SL) (B:Int→List Int):Prop where
 nd:∀i,i<16→dirt y i=true→(P (y.G i)).isSome=true∧B (y.G i)=ndB (y.nd (2*i))++ndB (y.nd (2*i+1))
 fo:∀i,i<3→tsec x { y with pt:=P,pby:=B } (1+i)=((pkS y.G 4).drop (64*i)).take 64
 qu:tsec x { y with pt:=P,pby:=B } 4=zeros 64
attribute [local go_sem ↓] ld_ino st_ino2 appB_eq
theorem end_is (h:TX w0 w c x t y)(hok:∀i,i<32→NdOk (y.nd i)∨y.nd i=nd0)(hG:∀k,k<16→5≤y.G k∧y.G k<256)(hGi:∀i j,i<16→j<16→y.G i=y.G j→i=j)(hgl:y.gv=.slice none 0 0)(hn:x.na+y.np+cntD y 16+4≤30)(hpt:∀j,1≤j→j≤4→y.pt j=none) :
  Calls Tryz.prog 55 #[.pointer (some ⟨t,0,none⟩)] w fun e w'=>e=.returned (.int .i64 0)∧(∃P n B,n≤y.np+cntD y 16+4∧(∀j:Int,(∀i,i<16→dirt y i=true→j≠(y.G i:Int))→¬(1≤j∧j≤4)→P j=y.pt j∧B j=y.pby j)∧FSt w' c (keptM x { y with pt:=P,np:=n,pby:=B } w0.heap.size w'.heap.size)∧EndX x y P B)∧Upd (fun j=>j=c.F∨j=x.a) w0 w':=by
 have HFI:=Lib.hid (fits_is h)
 have HH:=Lib.hid h
 have HGL:=Lib.hid hgl
 have HX:=Lib.hid (And.intro hok (And.intro hG (And.intro hn hpt)))
 have HGI:=Lib.hid hGi
 clear h hok hG hn hpt hgl hGi
 go_enter Tryz.func55,Tryz.ntmps55
 go_wp2_with (go_at_call 118;(with_reducible refine HFI.out.mono ?_);rintro e1 w1 ⟨rfl,rfl⟩)
 go_loopw [14] (fun iv wr=>∃k:Nat,k≤16∧iv=.int .i64 k∧Hid (TX w0 wr c x t y)∧Hid (Upd (tMut t y) w wr)) (fun iv _=>16-(intOf iv).toNat)
 case atStart=>exact⟨0,by omega,rfl,HH,Lib.hid (Upd.refl _ _)⟩
 case round=>
  obtain⟨k,hk0,rfl,HT,HU⟩:=hrel
  by_cases hk:k<16
  ·have i1:(k:Int)<16:=by omega
   have i0:(0:Int)≤k:=by omega
   have y1:IntKind.i64.wrap (2*(k:Int))=2*k:=IntWalk.i64_in _ (by omega)
   have y2:IntKind.i64.wrap (2*(k:Int)+1)=2*k+1:=IntWalk.i64_in _ (by omega)
   have y3:IntKind.i64.wrap (2*(k:Int)+2)=2*k+2:=IntWalk.i64_in _ (by omega)
   have c4:=HT.out.c4
   have l1:=HT.out.lookD (n:=2*(k:Int)+1) (WalkArith.wf_i64 (by omega))
   have l2:=HT.out.lookD (n:=2*(k:Int)+2) (WalkArith.wf_i64 (by omega))
   obtain⟨b1,hb1⟩:∃b,b=(y.dy (2*(k:Int)+1)).isSome:=⟨_,rfl⟩
   obtain⟨b2,hb2⟩:∃b,b=(y.dy (2*(k:Int)+2)).isSome:=⟨_,rfl⟩
   rw[← hb1] at l1
   rw[← hb2] at l2
   clear hb1 hb2
   have HS:=Lib.hid (fun wx (hx:TX w0 wx c x t y)=>hx.same hk)
   have hdr:=HT.out.keep (Below.refl wr.heap.size wr).drew
   have HOW:=Lib.hid (ownP_is hdr (p:=(y.G k:Int)) (by have:=(HX.out.2.1 k hk).1;omega))
   have HDR:=Lib.hid hdr
   obtain⟨cc,-,-⟩:=HT.out.same hk
   clear hdr
   rcases b1 with _|_ <;> rcases b2 with _|_
   ·go_upto_region 7 with fail
    go_roundw
    case rel=>exact⟨k+1,by omega,by go_num,HT,HU⟩
    case measure=>simp[intOf];omega
   all_goals
    go_upto_region 7 with fail
    go_region_law (go_simp;go_at_call 119;refine HOW.out.mono ?_;rintro e3 w3 ⟨rfl,hb3⟩;have hT3:=HDR.out.keep hb3;obtain⟨cc3,z3,hT4⟩:=HS.out w3 hT3;have HT4:=Lib.hid hT4;have HU3:Hid (Upd (tMut t y) w w3):=Lib.hid ((HU.out.trans (Upd.drew wr)).trans (Upd.below hb3));clear hT3 hT4 hb3)
    have HT5:=HT4
    have HU5:Hid (Upd (tMut t y) w (w3.setCell ⟨t,1+k,none⟩ (.int .i64 (y.G k)))):=Lib.hid (HU3.out.trans (Upd.set w3 _ (.inl rfl)))
    clear HT4 HU3 cc3 z3
    generalize w3.setCell ⟨t,1+k,none⟩ (.int .i64 (y.G k))=w5 at *
    go_wp2_with fail
    go_roundw
    case rel=>exact⟨k+1,by omega,by go_num,HT5,HU5⟩
    case measure=>simp[intOf];omega
  ·have hk16:¬(k:Int)<16:=by omega
   have c7:=HT.out.c7
   go_wp2_with fail
   have HT0:Hid (∃P n B,TX w0 wr c x t { y with pt:=P,np:=n,pby:=B }∧n≤y.np+cntD y 0∧(∀j,(∀i,i<0→dirt y i=true→j≠(y.G i:Int))→P j=y.pt j∧B j=y.pby j)∧∀i,i<0→dirt y i=true→(P (y.G i)).isSome=true∧B (y.G i)=ndB (y.nd (2*i))++ndB (y.nd (2*i+1))):=Lib.hid ⟨y.pt,y.np,y.pby,HT.out,Nat.le_add_right _ _,fun _ _=>⟨rfl,rfl⟩,fun i hi=>absurd hi (Nat.not_lt_zero _)⟩
   clear HT c7
   go_loopw [2,57] (fun rv iv wr=>∃k:Nat,k≤16∧rv=.int .i64 0∧iv=.int .i64 k∧Hid (∃P n B,TX w0 wr c x t { y with pt:=P,np:=n,pby:=B }∧n≤y.np+cntD y k∧(∀j,(∀i,i<k→dirt y i=true→j≠(y.G i:Int))→P j=y.pt j∧B j=y.pby j)∧∀i,i<k→dirt y i=true→(P (y.G i)).isSome=true∧B (y.G i)=ndB (y.nd (2*i))++ndB (y.nd (2*i+1)))∧Hid (Upd (tMut t y) w wr)) (fun _ iv _=>16-(intOf iv).toNat)
   case atStart=>exact⟨0,by omega,rfl,rfl,HT0,HU⟩
   case round=>
    clear HT0 HU
    obtain⟨k,hk0,rfl,rfl,HQ,HU⟩:=hrel
    obtain⟨P,n,B,hT,hnp,hoff,hnds⟩:=HQ.out
    have HND:=Lib.hid hnds
    clear hnds
    have HT:=Lib.hid hT
    have HO:=Lib.hid (And.intro hnp hoff)
    clear hT hnp hoff HQ
    by_cases hk:k<16
    ·have i1:(k:Int)<16:=by omega
     have i0:(0:Int)≤k:=by omega
     have y1:IntKind.i64.wrap (2*(k:Int))=2*k:=IntWalk.i64_in _ (by omega)
     have y2:IntKind.i64.wrap (2*(k:Int)+1)=2*k+1:=IntWalk.i64_in _ (by omega)
     have y3:IntKind.i64.wrap (2*(k:Int)+2)=2*k+2:=IntWalk.i64_in _ (by omega)
     have c4:=HT.out.c4
     have l1:=HT.out.lookD (n:=2*(k:Int)+1) (WalkArith.wf_i64 (by omega))
     have l2:=HT.out.lookD (n:=2*(k:Int)+2) (WalkArith.wf_i64 (by omega))
     simp only at c4 l1 l2
     obtain⟨b1,hb1⟩:∃b,b=(y.dy (2*(k:Int)+1)).isSome:=⟨_,rfl⟩
     obtain⟨b2,hb2⟩:∃b,b=(y.dy (2*(k:Int)+2)).isSome:=⟨_,rfl⟩
     rw[← hb1] at l1
     rw[← hb2] at l2
     have hdt:dirt y k=(b1 || b2):=by unfold dirt;rw[hb1,hb2]
     have HDT:=Lib.hid hdt
     clear hb1 hb2 hdt
     obtain⟨C,hC⟩:=HT.out.nb
     simp only at hC
     have c3:=HT.out.c3
     simp only at c3
     have ld1:=hC.ld (i:=2*k) (by omega)
     have HIP1:=Lib.hid (ipackA_is (w:=wr) (x:=y.nd (2*k)) (HT.out.ps (2*k) (by omega)).a (HX.out.1 _ (by omega)) (HT.out.ps (2*k) (by omega)).lt)
     have HCC:=Lib.hid hC
     have i32:(2*(k:Int))<32:=by omega
     have i33:(2*(k:Int)+1)<32:=by omega
     clear hC
     rcases b1 with _|_ <;> rcases b2 with _|_
     ·go_upto_region 15 with fail
      go_roundw
      case rel=>exact⟨k+1,by omega,by omega,Lib.hid ⟨P,n,B,HT.out,by have:=HO.out.1;rw[cntD_next];omega,fun j hj=>HO.out.2 j (fun i hi=>hj i (by omega)),fun i hi hd=>HND.out i (by rcases Nat.lt_or_ge i k with q|q;exact q;exfalso;rw[show i=k by omega,HDT.out] at hd;cases hd) hd⟩⟩
      case measure=>simp[intOf];omega
     all_goals
      go_upto_region 16 with (go_at_call 44;(with_reducible refine HIP1.out.mono ?_);rintro e4 w4 ⟨v4,l4,rfl,ho4,hl4,hb4,hq4⟩)
      have hT4:=HT.out.keep hb4
      have c3':=hT4.c3
      simp only at c3'
      have hC4:=HCC.out.keep hb4
      have ld2:=hC4.ld (i:=2*k+1) (by omega)
      have HIP2:=Lib.hid (ipackA_is (w:=w4) (x:=y.nd (2*k+1)) (hT4.ps (2*k+1) (by omega)).a (HX.out.1 _ (by omega)) (hT4.ps (2*k+1) (by omega)).lt)
      have HO4:=Lib.hid (And.intro ho4 hl4)
      have HQ4:=Lib.hid hq4
      clear hq4
      have HB4:=Lib.hid hb4
      clear hT4 hC4 ho4 hb4 ld1 l1 l2 c4 c3 HIP1
      go_upto_region 19 with (go_at_call 44;(with_reducible refine HIP2.out.mono ?_);rintro e5 w5 ⟨v5,l5,rfl,ho5,hl5,hb5,hq5⟩)
      have HQ5:=Lib.hid hq5
      clear hq5
      have hB5:=HB4.out.trans (hb5.mono HB4.out.size)
      have HB5:=Lib.hid hB5.drew
      have ho5':=ho5
      unfold OB at ho5'
      rw[hl5] at ho5'
      obtain⟨p5,cp5,e5⟩:=own_form ho5'
      subst e5
      obtain⟨b5,o5,e5,hcl⟩:=own_cells ho5' hl5 (by decide)
      subst e5
      have ho4:=HO4.out.1.keep hb5
      have hl4:=HO4.out.2
      obtain⟨p6,cp6,w6,hap,ho6,hb6⟩:=OB.app' (w:=w5.drew) (n:=32) (c:=cp5) ho4.drew (Nat.le_trans hB5.size (Nat.le_refl _)) hl5 hcl (by rw[hl4];decide)
      rw[hl4] at hap ho6
      have hB6:Below wr.heap.size wr w6:=hB5.drew.trans hb6
      have hT6:=HT.out.keep hB6
      have c6:=hT6.c5
      obtain⟨k6,-,-⟩:=hT6.same hk
      simp only at c6 k6
      obtain⟨g6,e6,hg60,hg61,hg62,hg63⟩:=own_block (show w6.ownsRow wr.heap.size 5 1 (.slice p6 64 cp6) 64 ((l4++l5).map u8V) from by have:=ho6;unfold OB at this;rw[List.length_append,hl4,hl5] at this;exact this) (by decide)
      subst e6
      have hl6:(l4++l5).length=64:=by rw[List.length_append,hl4,hl5]
      obtain⟨w7,hput,hm7,hg7⟩:=hT6.pb.put (T:=134) Tryz.underlying134 (k:=(y.G k:Int)) (WalkArith.wf_i64 (by have:=(HX.out.2.1 k hk).2;omega)) (show n<maxLen from by have h1:=HO.out.1;have h2:=HX.out.2.2.1;have h3:=cntD_le y k hk;unfold maxLen;omega) (g6,0,64,cp6)
      change (Instr.mapUpdate 134 (.map (some y.pb)) (.int .i64 (y.G k)) (.slice (some ⟨g6,0,none⟩) 64 cp6)).run Tryz.prog _=_ at hput
      have hI:Im (fun j=>fMut c x j∨tMut t y j) w6 (encS (some (g6,0,64,cp6))) (l4++l5):=⟨by
              have:=ho6.at
              exact this,fun j e q=>by
              have e:g6=j:=by simpa [encS,Value.ownBlock] using e
              subst e
              rcases q with q|q
              · have:=HT.out.fs.lt _ (HT.out.fs.bm _ q);have:=HT.out.bl.size;omega
              · have:=(HT.out.mlt (show tMut t { y with pt:=P,np:=n,pby:=B } g6 from q)).2;omega⟩
      have hT7:=hT6.puts (fb:=fun j=>if j=(y.G k:Int) then l4++l5 else B j) hg7 hm7 (fun q s' e=>by
              by_cases e2:q=(y.G k:Int)
              · rw[if_pos e2] at e
                injection e with e
                subst e
                right
                rw[if_pos e2]
                refine⟨hI,hl6,?_⟩
                have:=HT.out.bl.size
                show w0.heap.size≤g6
                omega
              · rw[if_neg e2] at e
                left
                exact⟨e,if_neg e2⟩)
      have HT7:=Lib.hid hT7
      have HU7:Hid (Upd (tMut t y) w w7):=Lib.hid ((HU.out.trans (Upd.below hB6)).trans (Upd.grown hg7 (.inr (.inr (.inr (.inl rfl))))))
      have hT5:=HT.out.keep hB5.drew
      have d5:=hT5.c5
      obtain⟨k5,-,-⟩:=hT5.same hk
      simp only at d5 k5
      have c7:=hT7.c5
      obtain⟨k7,-,-⟩:=hT7.same hk
      simp only at c7 k7
      clear hT7 hg7 hm7 hI hT6 hB6 hb6 ho4 ho5' ho5 ho6 hT5 hB5 hb5 hcl c3' ld2 HIP2 hg60 hg61 hg62 hg63
      go_region_held3 (fun wx=>wx.cell? ⟨t,196,none⟩=some (.map (some y.pb))∧wx.cell? ⟨t,1+k,none⟩=some (.int .i64 (y.G k))) (first|(with_reducible exact⟨d5,k5⟩)|(with_reducible exact⟨c6,k6⟩)|(with_reducible exact⟨c7,k7⟩)|fail) (fail)
      have HQ7:Hid (∃P n B,TX w0 w7 c x t { y with pt:=P,np:=n,pby:=B }∧n≤y.np+cntD y (k+1)∧(∀j,(∀i,i<k+1→dirt y i=true→j≠(y.G i:Int))→P j=y.pt j∧B j=y.pby j)∧∀i,i<k+1→dirt y i=true→(P (y.G i)).isSome=true∧B (y.G i)=ndB (y.nd (2*i))++ndB (y.nd (2*i+1))):=Lib.hid ⟨_,_,_,HT7.out,by
              have h1:=HO.out.1
              have h2:dirt y k=true:=HDT.out
              rw[cntD_next,if_pos h2]
              show n+1≤_
              omega,fun j hj=>by
              have hjk:=hj k (by omega) HDT.out
              have:=HO.out.2 j (fun i hi=>hj i (by omega))
              exact⟨(if_neg hjk).trans this.1,(if_neg hjk).trans this.2⟩,fun i hi hd=>by
              by_cases e:i=k
              · subst e
                refine⟨?_,?_⟩
                · show (if (y.G i:Int)=(y.G i:Int) then _ else P (y.G i)).isSome=true
                  rw[if_pos rfl];rfl
                · show (if (y.G i:Int)=(y.G i:Int) then l4++l5 else B (y.G i))=_
                  rw[if_pos rfl,HQ4.out,HQ5.out]
              · have hne:¬(y.G i:Int)=(y.G k:Int):=fun q=>e (HGI.out i k (by omega) hk (by omega))
                have h9:=HND.out i (by omega) hd
                refine⟨?_,?_⟩
                · show (if (y.G i:Int)=(y.G k:Int) then _ else P (y.G i)).isSome=true
                  rw[if_neg hne];exact h9.1
                · show (if (y.G i:Int)=(y.G k:Int) then l4++l5 else B (y.G i))=_
                  rw[if_neg hne];exact h9.2⟩
      clear HT7 hap hput c6 k6 d5 k5 c7 k7
      go_wp2_with fail
      go_roundw
      case rel=>exact⟨k+1,by omega,rfl,by go_num,HQ7,HU7⟩
      case measure=>simp[intOf];omega
    ·obtain rfl:k=16:=by omega
     have d6:=HT.out.c6
     have HKP:=Lib.hid (keep_is HT.out (show x.na+n+4≤30 from by have:=HO.out.1;have:=HX.out.2.2.1;omega) (fun j h1 h4=>by
            have:=HO.out.2 j (fun i hi _ e=>by have:=(HX.out.2.1 i hi).1;omega)
            exact this.1.trans (HX.out.2.2.2 j h1 h4)))
     simp only at d6
     rw[HGL.out] at d6
     go_wp2_with fail
     refine wp_loop_rounds 1 ?_
     rw[rounds_succ]
     go_wp2_with (go_at_call 121;(with_reducible refine HKP.out.mono ?_);rintro e8 w8 ⟨rfl,⟨y8,hP8,hF8,hD8⟩,hu8⟩)
     go_ret
     refine⟨rfl,⟨y8.pt,y8.np,y8.pby,?_,fun j h1 h2=>?_,?_,⟨fun i hi hd=>?_,hD8.1,hD8.2⟩⟩,hu8⟩
     ·have h1:=hP8.np
      have h2:=HO.out.1
      have h3:({ y with pt:=P,np:=n,pby:=B }:TM).np=n:=rfl
      omega
     ·have h3:=hP8.off j h2
      have h4:=HO.out.2 j (fun i hi hd=>h1 i hi hd)
      exact⟨h3.1.trans h4.1,h3.2.trans h4.2⟩
     ·have e:y8={ y with pt:=y8.pt,np:=y8.np,pby:=y8.pby }:=hP8.eq
      rw[← e]
      exact hF8
     ·have h2:¬(1≤(y.G i:Int)∧(y.G i:Int)≤4):=by have:=(HX.out.2.1 i hi).1;omega
      have h3:=hP8.off (y.G i:Int) h2
      have h4:=HND.out i hi hd
      exact⟨by rw[h3.1];exact h4.1,h3.2.trans h4.2⟩
end
section
variable {w0 w:World} {c:FC} {x:FM} {t:Nat} {y:TM}
attribute [local go_sem ↓] ld_ino st_ino2 appB_eq
theorem entries0_is (h:TX w0 w c x t y) {i:Nat}(hi:i<32)(hps:(y.nd i).ps=[])(hsz:(y.nd i).sz=0) {n:Int}(hn:n=i+1):Calls Tryz.prog 204 #[.pointer (some ⟨t,0,none⟩),.int .i64 n] w fun e w'=>e=.returned (.slice none 0 0)∧Below w.heap.size w w':=by
 have HN:=Lib.hid (node_is h hi hn)
 have HP:=Lib.hid (h.ps i hi)
 obtain⟨N,hNd⟩:∃N,N=y.nd i:=⟨_,rfl⟩
 rw[← hNd] at HN HP hps hsz
 have hsn:=fun w=>st0_new w (T:=120) (c:=#[.int .i64 0,.int .i64 0,.int .i64 0,.int .i64 0,.int .i64 0,.int .i64 0,.int .i64 0,.slice none 0 0]) (cs:=ndA N) rfl (by rw[ndA_size];kernel_rfl) (ndA_one N (ip_one HP.out))
 have hA:=HP.out.a
 rw[hps] at hA
 obtain⟨ap,cp,hpv,-,mcp,-⟩:=hA
 have HPV:=Lib.hid (And.intro hpv hsz)
 have mcp':(cp:Int)≤9223372036854775807:=by unfold maxLen at mcp;omega
 clear h hi hps hsz hNd hn hpv HP
 go_enter Tryz.func204,Tryz.ntmps204
 go_upto_region 2 with (go_at_call 116;refine HN.out.mono ?_;rintro e1 w1 ⟨rfl,hb1⟩;have HB1:=Lib.hid hb1;clear hb1)
 have hr2:=row_new w1 120 (ndA N)
 have HB2:=Lib.hid (HB1.out.trans ((Go.Joins.below_alloc1 w1 (.cells (ndA N) 120)).mono HB1.out.size))
 have c7:(w1.alloc (.cells (ndA N) 120)).cell? ⟨w1.heap.size,7,none⟩=some (.slice ap 0 cp):=by rw[hr2.cell,← show N.pv=.slice ap 0 cp from HPV.out.1];rfl
 have c4:(w1.alloc (.cells (ndA N) 120)).cell? ⟨w1.heap.size,4,none⟩=some (.int .i64 0):=by rw[hr2.cell,← HPV.out.2];rfl
 clear hr2 hsn HN HB1
 generalize w1.alloc (.cells (ndA N) 120)=w2 at *
 go_wp2_with fail
 refine wp_loop_rounds 1 ?_
 rw[rounds_succ]
 go_wp2_with fail
 go_ret
 exact⟨rfl,HB2.out⟩
theorem entries1_is (h:TX w0 w c x t y) {i:Nat}(hi:i<32) {p L:Nat}(hps:(y.nd i).ps=[(p:Int)])(hp0:p≠0)(hp:p<256)(hsz:(y.nd i).sz=L)(hL:L≤64) {n:Int}(hn:n=i+1):Calls Tryz.prog 204 #[.pointer (some ⟨t,0,none⟩),.int .i64 n] w fun e w'=>∃v,e=.returned v∧At (Value.int .u8) 0 w' v ((tsec x y p).take L)∧(∀j,v.ownBlock=some j→w.heap.size≤j)∧Below w.heap.size w w':=by
 have HH:=Lib.hid h
 have HN:=Lib.hid (node_is h hi hn)
 have HP:=Lib.hid (h.ps i hi)
 have HTL:=Lib.hid (tsec_len h hp)
 obtain⟨N,hNd⟩:∃N,N=y.nd i:=⟨_,rfl⟩
 rw[← hNd] at HN HP hps hsz
 have hsn:=fun w=>st0_new w (T:=120) (c:=#[.int .i64 0,.int .i64 0,.int .i64 0,.int .i64 0,.int .i64 0,.int .i64 0,.int .i64 0,.slice none 0 0]) (cs:=ndA N) rfl (by rw[ndA_size];kernel_rfl) (ndA_one N (ip_one HP.out))
 have hA:=HP.out.a
 rw[hps] at hA
 obtain⟨ap,cp,hpv,-,mcp,-⟩:=hA
 have HPV:=Lib.hid (And.intro hpv (And.intro hsz (And.intro hps (And.intro hp0 hp))))
 have mcp':(cp:Int)≤9223372036854775807:=by unfold maxLen at mcp;omega
 clear h hi hps hsz hNd hn hpv hp0 hp
 go_enter Tryz.func204,Tryz.ntmps204
 go_upto_region 2 with (go_at_call 116;refine HN.out.mono ?_;rintro e1 w1 ⟨rfl,hb1⟩;have HB1:=Lib.hid hb1;clear hb1)
 have hr2:=row_new w1 120 (ndA N)
 have HB2:=Lib.hid (HB1.out.trans ((Go.Joins.below_alloc1 w1 (.cells (ndA N) 120)).mono HB1.out.size))
 have c7:(w1.alloc (.cells (ndA N) 120)).cell? ⟨w1.heap.size,7,none⟩=some (.slice ap 1 cp):=by rw[hr2.cell,← show N.pv=.slice ap 1 cp from HPV.out.1];rfl
 have c4:∀wx,Below (w1.alloc (.cells (ndA N) 120)).heap.size (w1.alloc (.cells (ndA N) 120)) wx→wx.cell? ⟨w1.heap.size,4,none⟩=some (.int .i64 L):=fun wx hx=>by rw[(hr2.keep hx).cell,← HPV.out.2.1];rfl
 have HC4:=Lib.hid c4
 have l2:=hr2.ld0 Tryz.underlying120 rfl (by rw[ndA_size];kernel_rfl)
 clear hr2 hsn HN HB1 c4
 generalize w1.alloc (.cells (ndA N) 120)=w2 at *
 have hT2:=HH.out.keep HB2.out
 have HBK:=Lib.hid (block_is hT2 (n:=N) ((HP.out.upd (S:=fun _=>False) (Upd.below HB2.out) (fun _ _ e=>e)).a) (by rw[HPV.out.2.2.1];intro z hz;simp at hz;subst hz;have:=HPV.out.2.2.2.2;omega) 0 (by decide))
 rw[HPV.out.2.2.1] at HBK
 have eb:bsec x y [(p:Int)] 0=tsec x y p:=by
  unfold bsec
  have hp0:p≠0:=HPV.out.2.2.2.1
  simp[hp0]
 rw[eb] at HBK
 have HBK:Hid (Calls Tryz.prog 129 #[.pointer (some ⟨t,0,none⟩),.agg (ndA N),.int .i64 0] w2 fun e w'=>∃v,e=.returned v∧NewB (tsec x y p) w2 v w'):=Lib.hid HBK.out
 clear hT2 eb
 go_wp2_with fail
 refine wp_loop_rounds 2 ?_
 rw[rounds_succ]
 go_upto_region 7 with (go_at_call 129;(with_reducible refine HBK.out.mono ?_);rintro e3 w3 ⟨v3,rfl,ho3,hb3⟩;obtain⟨p3,c3,rfl⟩:=own_form ho3;obtain⟨b3,o3,rfl,hcl⟩:=own_cells ho3 rfl (by rw[HTL.out];decide);rw[HTL.out];obtain⟨p4,c4,w4,hap,ho4,hb4⟩:=(OB.nil w2.heap.size w3).app' (a:=⟨b3,o3,none⟩) (c:=c3) (news:=tsec x y p) (n:=64) hb3.size HTL.out hcl (by decide);have hap:(appB #[.slice none 0 0,.slice (some ⟨b3,o3,none⟩) 64 c3]).run Tryz.prog w3=.ok (.slice p4 64 c4) w4:=hap)
 have HB4:=Lib.hid (HB2.out.trans ((Below.trans hb3 hb4).mono HB2.out.size))
 have d4:=HC4.out w4 (Below.trans hb3 hb4)
 have ho4:OB w2.heap.size w4 (.slice p4 64 c4) (tsec x y p):=ho4
 have ha4:=ho4.at
 unfold OB at ho4
 rw[HTL.out] at ho4
 obtain⟨g4,rfl,hg0,hg1,hg2,hg3⟩:=own_block ho4 (by decide)
 have hmx:(c4:Int)≤9223372036854775807:=by unfold maxLen at hg3;omega
 have hLc:(L:Int)≤c4:=by omega
 have hL64:(L:Int)≤64:=by omega
 have HA4:Hid (At (Value.int .u8) 0 w4 (.slice (some ⟨g4,0,none⟩) L c4) ((tsec x y p).take L)):=Lib.hid (by
    obtain⟨a',c',e,h1,h2,h3⟩:=ha4
    rw[HTL.out] at e h1
    injection e with e1 _ e3
    subst e1 e3
    have hl:((tsec x y p).take L).length=L:=by rw[List.length_take,HTL.out];omega
    refine⟨_,c4,by rw[hl],by rw[hl];omega,h2,?_⟩
    rcases h3 with e|⟨b,o,e,hb,hc⟩
    · have:=HTL.out;rw[e] at this;cases this
    · refine .inr ⟨b,o,e,hb,fun i hi=>?_⟩
      rw[hl] at hi
      rw[hc i (by rw[HTL.out];omega)]
      congr 2
      simp[List.getD,List.getElem?_take,hi])
 have HG4:Hid (w.heap.size≤g4):=Lib.hid (Nat.le_trans HB2.out.size hg0)
 clear ha4 ho4 hap ho3 hb3 hb4 hcl hg0 hg1 hg2 hg3 l2 c7 HBK
 go_wp2_with fail
 rw[rounds_succ]
 go_wp2_with fail
 go_ret
 exact⟨_,rfl,HA4.out,fun j e=>by injection e with e;subst e;exact HG4.out,HB4.out⟩
end
theorem ixb0_is (s:ByteArray) (c:Int) (w:World):Calls Tryz.prog 313 #[.string s,.int .u8 c] w fun e w'=>e=.returned (.int .i64 (Lib.indexByte s.data.toList c.toNat.toUInt8))∧w=w':=by
 go_enter Tryz.func313,Tryz.ntmps313
 go_wp2
 rw[run_callFunc_extern Tryz.func343 (by kernel_rfl) (by kernel_rfl) (by kernel_rfl) (e:=Extern.BytealgIndexByte.indexByte) (by kernel_rfl),Lib.run_indexByteString]
 simp only[Result.andThen]
 rw[Oper.upon_value]
 go_wp2
 go_ret
 exact⟨rfl,rfl⟩
theorem ixb_is (s:ByteArray) (c:Int) (w:World):Calls Tryz.prog 265 #[.string s,.int .u8 c] w fun e w'=>e=.returned (.int .i64 (Lib.indexByte s.data.toList c.toNat.toUInt8))∧w=w':=by
 have H:=Lib.hid (ixb0_is s c w)
 go_enter Tryz.func265,Tryz.ntmps265
 go_wp2_with (go_at_call 313;refine H.out.mono ?_;rintro e1 w1 ⟨rfl,rfl⟩)
 go_ret
 exact⟨rfl,rfl⟩
theorem name_is (w:World):Calls Tryz.prog 201 #[.string ⟨#[102]⟩] w fun e w'=>e=.returned (.bool true)∧w=w':=by
 have H0:=Lib.hid (ixb_is ⟨#[102]⟩ 0 w)
 have H1:=Lib.hid (ixb_is ⟨#[102]⟩ 47 w)
 have e0:Lib.indexByte (⟨#[102]⟩:ByteArray).data.toList (0:Int).toNat.toUInt8 = -1:=by decide
 have e1:Lib.indexByte (⟨#[102]⟩:ByteArray).data.toList (47:Int).toNat.toUInt8 = -1:=by decide
 rw[e0] at H0
 rw[e1] at H1
 go_enter Tryz.func201,Tryz.ntmps201
 go_wp2_with (first|(go_at_call 265;(with_reducible refine H0.out.mono ?_);rintro e1 w1 ⟨rfl,rfl⟩;clear H0)|(go_at_call 265;(with_reducible refine H1.out.mono ?_);rintro e1 w1 ⟨rfl,rfl⟩;clear H1))
 go_ret
 exact⟨rfl,rfl⟩
theorem nanS_is (w:World):Calls Tryz.prog 315 #[.string ⟨#[102]⟩] w fun e w'=>e=.returned (.bool false)∧w=w':=by
 go_enter Tryz.func315,Tryz.ntmps315
 go_wp2
 go_ret
 exact⟨rfl,rfl⟩
theorem cmpS_is (w:World):Calls Tryz.prog 267 #[.string ⟨#[102]⟩,.string ⟨#[102]⟩] w fun e w'=>e=.returned (.int .i64 0)∧w=w':=by
 have H:=Lib.hid (nanS_is w)
 have b0:Op.bytesLess [102] [102]=false:=by decide
 have hg:(binOp .gtr 9 (.string ⟨#[102]⟩) (.string ⟨#[102]⟩)).run Tryz.prog w=.ok (.bool false) w:=by kernel_rfl
 go_enter Tryz.func267,Tryz.ntmps267
 go_wp2_with (go_at_call 315;refine H.out.mono ?_;rintro e1 w1 ⟨rfl,rfl⟩)
 go_ret
 exact⟨rfl,rfl⟩
def sk (k:Nat):ByteArray:=⟨(102::List.replicate k 0).toArray⟩
theorem sk_size (k:Nat):(sk k).size=k+1:=by simp[sk,ByteArray.size]
def ixS (a b:Value):Sem Value:=Instr.index 9 a b
def slS (a:Value) (b c d:Option Value):Sem Value:=Instr.sliceAt 9 a b c d
theorem ixS_eq (a b:Value):Instr.index 9 a b=ixS a b:=rfl
theorem slS_eq (a:Value) (b c d:Option Value):Instr.sliceAt 9 a b c d=slS a b c d:=rfl
theorem ixS_run (w:World):∀k:Nat,k≤13→(ixS (.string (sk k)) (.int .i64 k)).run Tryz.prog w=.ok (.int .u8 (if k=0 then 102 else 0)) w:=by
 intro k hk
 rcases k with _|_|_|_|_|_|_|_|_|_|_|_|_|_|k
 all_goals first|omega|kernel_rfl
theorem slS_run (w:World):∀k:Nat,k≤12→(slS (.string (sk (k+1))) none (some (.int .i64 (k+1:Nat))) none).run Tryz.prog w=.ok (.string (sk k)) w:=by
 intro k hk
 rcases k with _|_|_|_|_|_|_|_|_|_|_|_|_|k
 all_goals first|omega|kernel_rfl
section
attribute [local go_sem ↓] ixS_eq slS_eq
theorem trimB_is (w:World):Calls Tryz.prog 344 #[.string (sk 13),.int .u8 0] w fun e w'=>e=.returned (.string (sk 0))∧w=w':=by
 go_enter Tryz.func344,Tryz.ntmps344
 go_wp2
 go_loopw [0] (fun sv wr=>∃k:Nat,k≤13∧sv=.string (sk k)∧wr=w) (fun sv _=>match sv with | .string s=>s.size|_=>0)
 case atStart=>exact⟨13,by omega,rfl,by trivial⟩
 case round=>
  obtain⟨k,hk,rfl,rfl⟩:=hrel
  have hz:=sk_size k
  have hi:=ixS_run wr k hk
  rcases k with _|k
  ·rw[if_pos rfl] at hi
   have hi:(ixS (.string (sk 0)) (.int .i64 0)).run Tryz.prog wr=.ok (.int .u8 102) wr:=hi
   have hz:(sk 0).size=1:=hz
   obtain⟨S,hS⟩:∃S,S=sk 0:=⟨_,rfl⟩
   rw[← hS] at hi hz ⊢
   have HS:=Lib.hid hS
   clear hS
   go_wp2
   go_ret
   exact⟨by rw[← HS.out];rfl,rfl⟩
  ·rw[if_neg (by omega)] at hi
   have hs:=slS_run wr k (by omega)
   rw[show (((k+1:Nat)):Int)=(k:Int)+1 by omega] at hi hs
   have HM:Hid (k≤12∧(sk k).size=k+1∧(sk (k+1)).size=k+2):=Lib.hid ⟨by omega,sk_size k,sk_size (k+1)⟩
   generalize hS:sk (k+1)=S at *
   have HS:=Lib.hid hS
   clear hS
   go_wp2
   go_roundw
   case rel=>exact⟨k,by have:=HM.out.1;omega,rfl,by trivial⟩
   case measure=>have:=HM.out;simp only;omega
end
def entL:List Int:=[102,0,0,0,0,0,0,0,0,0,0,0,0,0,2,0]
theorem convN {w:World} {b o c:Nat}(h:∀i,i<16→w.cell? ⟨b,o+i,none⟩=some (.int .u8 (entL.getD i 0))):(convert 22 9 (.slice (some ⟨b,o,none⟩) 14 c)).run Tryz.prog w=.ok (.string (sk 13)) w:=by
 refine run_convert_bytes_back w 22 9 5 ⟨b,o,none⟩ c (102::List.replicate 13 (0:UInt8)) Tryz.underlying22 Tryz.underlying5 Tryz.underlying9 fun j hj=>?_
 have hj':j<14:=by simpa using hj
 rw[Addr.add_lit,h j (by omega)]
 rcases j with _|_|_|_|_|_|_|_|_|_|_|_|_|_|j
 all_goals first|omega|rfl
theorem trimR_is (w:World):Calls Tryz.prog 314 #[.string (sk 13),.string ⟨#[0]⟩] w fun e w'=>e=.returned (.string (sk 0))∧w=w':=by
 have H:=Lib.hid (trimB_is w)
 have hz:=sk_size 13
 have he2:(sk 13).toList.isEmpty=false:=by kernel_rfl
 have he:(binOp .eql 9 (.string (sk 13)) (.string ⟨#[]⟩)).run Tryz.prog w=.ok (.bool false) w:=by kernel_rfl
 have hi:(Instr.index 9 (.string ⟨#[0]⟩) (.int .i64 0)).run Tryz.prog w=.ok (.int .u8 0) w:=by kernel_rfl
 generalize sk 13=S at *
 go_enter Tryz.func314,Tryz.ntmps314
 go_wp2_with (go_at_call 344;refine H.out.mono ?_;rintro e1 w1 ⟨rfl,rfl⟩)
 go_ret
 exact⟨rfl,rfl⟩
theorem row_is {w:World} {b o c:Nat}(hv:At (Value.int .u8) 0 w (.slice (some ⟨b,o,none⟩) 16 c) entL):Calls Tryz.prog 266 #[.slice (some ⟨b,o,none⟩) 16 c,.int .i64 0] w fun e w'=>e=.returned (.agg #[.string ⟨#[102]⟩,.int .i64 2])∧Below w.heap.size w w':=by
 have hal:=Go.Joins.below_alloc1 w (.cells #[.string ⟨#[]⟩,.int .i64 0] 388)
 have HB:=Lib.hid hal
 have hcm:(c:Int)≤9223372036854775807∧16≤c:=by
  obtain⟨a',cap',e1,e2,e3,e4⟩:=hv
  injection e1 with e1 e5 e6
  unfold maxLen at e3
  have:entL.length=16:=rfl
  omega
 obtain⟨hc1,hc2⟩:=hcm
 have hc3:(14:Int)≤c:=by omega
 have hcl:∀i,i<16→(w.alloc (.cells #[.string ⟨#[]⟩,.int .i64 0] 388)).cell? ⟨b,o+i,none⟩=some (.int .u8 (entL.getD i 0)):=by
  rcases At.cellB (hv.keep hal) with e|⟨b',o',e,hlt,hc⟩
  ·cases e
  ·injection e with e
   injection e with e1 e2 _
   subst e1 e2
   exact hc
 have k1:=convN (c:=c) hcl
 have c14:(w.alloc (.cells #[.string ⟨#[]⟩,.int .i64 0] 388)).cell? ⟨b,o+14,none⟩=some (.int .u8 2):=hcl 14 (by decide)
 have HT:=Lib.hid (fun w=>trimR_is w)
 have q0:IntKind.i64.wrap 0=0:=by decide
 have q14:IntKind.i64.wrap 14=14:=by decide
 have q2:IntKind.i64.wrap 2=2:=by decide
 have q014:IntKind.i64.wrap (0+14)=14:=by decide
 have hr:=row_new w 388 #[.string ⟨#[]⟩,.int .i64 0]
 have HR:=Lib.hid hr
 have z0:=hr.fz 0
 have z1:=hr.fz 1
 have y0:=hr.cell 0
 have y1:=hr.cell 1
 clear hv hal hcl hr
 generalize sk 13=S at *
 go_enter Tryz.func266,Tryz.ntmps266
 go_upto_region 2 with fail
 generalize w.alloc (.cells #[.string ⟨#[]⟩,.int .i64 0] 388)=w1 at *
 go_region_law (go_simp;go_at_call 314;refine(HT.out _).mono ?_;rintro e2 w2 ⟨rfl,rfl⟩)
 all_goals
  go_wp2_with fail
  have hr2:Row (w1.setCell ⟨w.heap.size,0,none⟩ (.string (sk 0))) w.heap.size 388 #[.string (sk 0),.int .i64 0]:=by rw[HR.out.setCell];exact HR.out.setRow _
  have hr3:Row (((w1.setCell ⟨w.heap.size,0,none⟩ (.string (sk 0))).setCell ⟨w.heap.size,1,none⟩ (.int .i64 2)).drew) w.heap.size 388 #[.string (sk 0),.int .i64 2]:=by rw[hr2.setCell];exact(hr2.setRow _).drew
  have l3:=hr3.ldV Tryz.underlying388 rfl (by kernel_rfl)
  have hu:Upd (fun j=>j=w.heap.size) w1 (((w1.setCell ⟨w.heap.size,0,none⟩ (.string (sk 0))).setCell ⟨w.heap.size,1,none⟩ (.int .i64 2)).drew):=((Upd.set (S:=fun j=>j=w.heap.size) w1 (b:=w.heap.size) (i:=0) (.string (sk 0)) rfl).trans (Upd.set (S:=fun j=>j=w.heap.size) _ (b:=w.heap.size) (i:=1) (.int .i64 2) rfl)).trans (Upd.drew _)
  exact bodyPost_ret (v:=.agg #[.string (sk 0),.int .i64 2]) (by rw[results_cell1 rfl];simp[asAddr,Result.andThen,l3]) rfl ⟨rfl,HB.out.trans (hu.toBelow HB.out.size (fun k hk e=>by omega))⟩
end Go.Proofs.YtfkepfncgdlgoaaGreatDoor
