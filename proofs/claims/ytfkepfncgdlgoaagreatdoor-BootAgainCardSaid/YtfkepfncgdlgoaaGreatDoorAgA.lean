/- The walk of check.Tree at any right nodes. Printed by gen_treeg.py. The walk of orphan.Lost at nodes none of which is lost. The walk of fs.Mount at a disk whose log is replayed. Printed by gen_mntg.py. A file system that was mounted again, as a state. No walk here. -/
import Derived.Test.YtfkepfncgdlgoaaGreatDoorTree
import Derived.Test.YtfkepfncgdlgoaaGreatDoorUnpG
import Derived.Test.YtfkepfncgdlgoaaGreatDoorFsC
import Derived.Test.YtfkepfncgdlgoaaGreatDoorStart
import Derived.Test.YtfkepfncgdlgoaaGreatDoorFsE
import Derived.Test.YtfkepfncgdlgoaaGreatDoorKfA
namespace Go.Proofs.YtfkepfncgdlgoaaGreatDoor
open Go.RowKit
open Go.RowKit Go.Maps
set_option linter.unusedVariables false
set_option linter.unusedSimpArgs false
set_option maxRecDepth 100000
set_option maxHeartbeats 1000000
def SameN (x y:Nd):Prop:=x={ y with pv:=x.pv }∧(y.k=0→x=nd0)
structure PvG (B:Nat) (w:World) (x:Nd):Prop where
 a:At (Value.int .i64) 0 w x.pv x.ps
 o:∀j,x.pv.ownBlock=some j→B≤j∧j<w.heap.size
theorem PvG.keep {B:Nat} {w w':World} {x:Nd}(h:PvG B w x)(hb:Below w.heap.size w w'):PvG B w' x:=⟨h.a.keep hb,fun j e=>⟨(h.o j e).1,Nat.lt_of_lt_of_le (h.o j e).2 hb.size⟩⟩
theorem PvG.base {B B':Nat} {w:World} {x:Nd}(h:PvG B w x)(hb:B'≤B):PvG B' w x:=⟨h.a,fun j e=>⟨Nat.le_trans hb (h.o j e).1,(h.o j e).2⟩⟩
theorem PvG.one {B:Nat} {w:World} {x:Nd}(h:PvG B w x):x.pv.oneCell'=true:=by
 obtain⟨a,c,e,-⟩:=h.a
 rw[e]
 rfl
def NUnp (z:List Int) (y:Nd):Prop:=∀(w:World) (v:Value),At (Value.int .u8) 0 w v z→Calls Tryz.prog 112 #[v] w fun e w'=>∃x:Nd,e=.returned (.tuple #[.agg (ndA x),.int .i64 0])∧SameN x y∧PvG w.heap.size w' x∧Below w.heap.size w w'
theorem NUnp.zero:NUnp (zeros 32) nd0:=fun w v hv=>(iunpack0_is hv).mono fun e w' h=>⟨nd0,h.1,⟨rfl,fun _=>rfl⟩,⟨⟨none,0,rfl,Nat.le_refl _,Nat.zero_le _,.inl rfl⟩,fun j e=>by cases e⟩,h.2⟩
theorem NUnp.of {y:Nd} {x0 x1 x2 x3 x4 x5 x6 x7 x8:Int} {zs:List Int}(hzs:zs.length=16)(hN:NdBy y x0 x1 x2 x3 x4 x5 x6 x7 x8)(hX:XUnp zs y.ps)(hok:NdOk y)(hL:ndL y=(x0::x1::x2::x3::x4::x5::x6::x7::x8::(zs++zeros 7))):NUnp (ndL y) y:=fun w v hv=>by
 rw[hL] at hv
 refine(iunpackG_is hv hzs hN hX hok hL).mono ?_
 rintro e w' ⟨p,c,rfl,ho,hb⟩
 exact⟨{ y with pv:=.slice p y.ps.length c },rfl,⟨rfl,fun e=>by have:=hok.k;omega⟩,⟨at_of_owned (d:=0) ho,fun j e=>ho.lt j e⟩,hb⟩
theorem ndsC_ext {f g:Nat→Nd}:∀n,(∀i,i<n→f i=g i)→ndsC f n=ndsC g n
 | 0,_=>rfl
 | n+1,h=>by rw[ndsC_next,ndsC_next,ndsC_ext n (fun i hi=>h i (by omega)),h n (by omega)]
theorem info_ndA (x:Nd)(h:x.pv.oneCell'=true):∀u∈(ndA x).toList,u.oneCell'=true:=by
 intro u hu
 simp[ndA] at hu
 rcases hu with rfl|rfl|rfl|rfl|rfl|rfl|rfl|rfl <;> first|rfl|exact h
structure OG (B:Nat) (w:World) (v:Value) (n:Nat) (y nd:Nat→Nd):Prop where
 o:w.ownsRow B 120 8 v n (ndsC nd n)
 s:∀i,i<n→SameN (nd i) (y i)
 p:∀i,i<n→PvG B w (nd i)
 d:∀i,i<n→∀j,(nd i).pv.ownBlock=some j→v.ownBlock≠some j
theorem OG.keep {B n:Nat} {w w':World} {v:Value} {y nd:Nat→Nd}(h:OG B w v n y nd)(hb:Below w.heap.size w w'):OG B w' v n y nd:=⟨owns_keep h.o hb,h.s,fun i hi=>(h.p i hi).keep hb,h.d⟩
theorem OG.base {B B' n:Nat} {w:World} {v:Value} {y nd:Nat→Nd}(h:OG B w v n y nd)(hb:B'≤B):OG B' w v n y nd:=⟨owns_base h.o hb,h.s,fun i hi=>(h.p i hi).base hb,h.d⟩
theorem OG.push {B n:Nat} {w:World} {v:Value} {y nd:Nat→Nd} {x:Nd}(h:OG B w v n y nd)(hB:B≤w.heap.size)(h64:n<1000)(hx:PvG B w x)(hd:∀j,x.pv.ownBlock=some j→v.ownBlock≠some j)(hs:SameN x (y n)) :
  ∃p c' w',(appN #[v,.slice (some ⟨w.heap.size,0,none⟩) 1 1]).run Tryz.prog (w.alloc (.cells (ndA x) 120))=.ok (.slice p (n+1) c') w'∧(∃nd',OG B w' (.slice p (n+1) c') (n+1) y nd')∧Below B w w'∧(w.alloc (.cells (ndA x) 120)).grownBy w' v.ownBlock∧((Value.slice p (n+1) c').ownBlock=v.ownBlock∨∃g,w.heap.size≤g∧(Value.slice p (n+1) c').ownBlock=some g):=by
 obtain⟨i0,hi,hz0,hz1,hz2⟩:=info_parts infoN
 have hal0:=Go.Joins.below_alloc1 w (.cells (ndA x) 120)
 have hal:=(Below.refl B w).alloc hB (.cells (ndA x) 120)
 obtain⟨v',w',hr,ho,hg,hfr⟩:=run_append_fresh (P:=Tryz.prog) (w.alloc (.cells (ndA x) 120)) B 128 128 120 i0 _ 8 80 Tryz.underlying128 hi hz0 hz1 hz2 rfl (by decide) v n (ndsC nd n) (owns_keep h.o hal0) ⟨w.heap.size,0,none⟩ 1 1 (ndA x).toList (by simp[ndA]) (by
      have:=cells_new w (ndA x).toList 120
      rw[Array.toArray_toList] at this
      exact this) (by intro u hu;exact info_ndA x hx.one u hu) (by unfold maxLen;omega) (by omega) (Nat.le_trans hB hal.size)
 obtain⟨p,c',rfl⟩:=own_form ho
 have e:ndsC nd n++(ndA x).toList=ndsC (ups1 nd n x) (n+1):=by
  rw[ndsC_next,ups1_same,ndsC_ext n (fun i hi=>(ups1_off nd x (show i≠n by omega)).symm)]
 rw[e] at ho
 have hfr':(Value.slice p (n+1) c').ownBlock=v.ownBlock∨∃g,w.heap.size≤g∧(Value.slice p (n+1) c').ownBlock=some g:=by
  rcases hfr with e|⟨g,hg,e⟩
  ·exact .inl e
  ·exact .inr ⟨g,Nat.le_trans hal0.size hg,e⟩
 have kp:∀z:Nd,PvG B w z→(∀j,z.pv.ownBlock=some j→v.ownBlock≠some j)→PvG B w' z∧∀j,z.pv.ownBlock=some j→(Value.slice p (n+1) c').ownBlock≠some j:=fun z hz hzd=>by
  have h1:=hz.keep hal0
  refine⟨⟨?_,fun j q=>⟨(hz.o j q).1,Nat.lt_of_lt_of_le (h1.o j q).2 hg.size⟩⟩,fun j q e=>?_⟩
  ·obtain⟨a,cp,q1,q2,q3,q4⟩:=h1.a
   refine⟨a,cp,q1,q2,q3,?_⟩
   rcases q4 with q4|⟨b,o,rfl,q5,q6⟩
   ·exact .inl q4
   ·have hj:=hzd b (by rw[q1];rfl)
    exact .inr ⟨b,o,rfl,Nat.lt_of_lt_of_le q5 hg.size,fun i hi=>(grown_cell hg q5 (fun e=>hj e.symm)).trans (q6 i hi)⟩
  ·rcases hfr' with q2|⟨g,q3,q2⟩
   ·exact hzd j q (q2.symm.trans e)
   ·rw[q2] at e
    have e:=Option.some.inj e
    have:=(hz.o j q).2
    omega
 refine⟨p,c',w',hr,⟨ups1 nd n x,ho,fun i hi=>?_,fun i hi=>?_,fun i hi=>?_⟩,hal.trans ((Below.refl B _).grown hg (Nat.le_trans hB hal.size) (fun g hgg=>((h.o.lt g hgg).1))),hg,hfr'⟩
 ·by_cases q:i=n
  ·subst q;rw[ups1_same];exact hs
  ·rw[ups1_off _ _ q];exact h.s i (by omega)
 ·by_cases q:i=n
  ·subst q;rw[ups1_same];exact(kp x hx hd).1
  ·rw[ups1_off _ _ q];exact(kp _ (h.p i (by omega)) (h.d i (by omega))).1
 ·by_cases q:i=n
  ·subst q;rw[ups1_same];exact(kp x hx hd).2
  ·rw[ups1_off _ _ q];exact(kp _ (h.p i (by omega)) (h.d i (by omega))).2
def NG (f:List Int) (bl:Nat→List Int):Prop:=(∀i h,i<16→h<2→∀j,j<32→f.getD ((37+i)*64+(32*h+j)) 0=(bl (2*i+h)).getD j 0)∧∀i,i<32→(bl i).length=32
theorem Sec.atG {w:World} {v:Value} {b o i h cap:Nat} {f:List Int} {bl:Nat→List Int}(hs:Sec w v b o f i)(hn:NG f bl)(hi:i<16)(hh:h<2)(hc:64≤cap)(hm:cap≤maxLen):At (Value.int .u8) 0 w (.slice (some ⟨b,o+32*h,none⟩) 32 (cap-32*h)) (bl (2*i+h)):=by
 have hl:=hn.2 (2*i+h) (by omega)
 refine⟨_,_,by rw[hl],by rw[hl];omega,by omega,.inr ⟨b,o+32*h,rfl,hs.lt,fun j hj=>?_⟩⟩
 rw[hl] at hj
 rw[show o+32*h+j=o+(32*h+j) by omega,hs.cl _ (by omega),hn.1 i h hi hh j hj]
def PvS (x:Nd):Prop:=∃p n c,x.pv=.slice p n c
theorem PvG.s {B:Nat} {w:World} {x:Nd}(h:PvG B w x):PvS x:=by
 obtain⟨a,c,e,-⟩:=h.a
 exact⟨a,_,c,e⟩
theorem bsG (w:World) (x:Nd)(h:PvS x):(bsR 128 1 #[(0,.agg (ndA x))]).run Tryz.prog w=.ok (.slice (some ⟨w.heap.size,0,none⟩) 1 1) (w.alloc (.cells (ndA x) 120)):=by
 obtain⟨p,n,c,h⟩:=h
 obtain⟨k,m,u,g,sz,l,up,pv,ps⟩:=x
 subst h
 kernel_rfl
attribute [local go_sem ↓] bs_nod st_ino2 ld_ino ld_nod ix_nod appN_eq
section
variable {w w':World} {D sb nb m:Nat} {wv:Value} {s f:List Int} {G:Nat→Nat} {y:Nat→Nd} {bl:Nat→List Int}
theorem ctreeG_is (h:Dk w D sb nb wv m 256 s f)(hn:NG f bl)(hU:∀c,c<32→NUnp (bl c) (y c))(hG:∀i,i<16→G i=37+i):Calls Tryz.prog 50 #[.iface 25 (.pointer (some ⟨D,0,none⟩)),.agg (treA G)] w fun e w'=>∃v nd,e=.returned (.tuple #[v,.int .i64 0])∧OG w.heap.size w' v 32 y nd∧Below w.heap.size w w':=by
 have hmr:=method_read
 have HD:=Lib.hid h
 have HG:=Lib.hid hG
 have HN:=Lib.hid hn
 have HUU:=Lib.hid hU
 have HTA:=Lib.hid (treA_size G)
 clear h hG hn hU
 go_enter Tryz.func50,Tryz.ntmps50
 go_upto_region 1 with fail
 have HR0:Hid (Row (w.alloc (.cells (treA G) 113)) w.heap.size 113 (treA G)):=Lib.hid (row_new w _ _)
 have HB0:=Lib.hid (Go.Joins.below_alloc1 w (.cells (treA G) 113))
 have HD0:=Lib.hid (HD.out.keep HB0.out)
 have l0:(ldR 58 (.pointer (some ⟨w.heap.size,0,none⟩))).run Tryz.prog (w.alloc (.cells (treA G) 113))=.ok (.agg (nodA G)) (w.alloc (.cells (treA G) 113)):=by
  rw[HR0.out.ld (o:=0) (n:=16) (by rw[HTA.out];decide) Tryz.underlying58 rfl (by kernel_rfl),treA_nod]
 generalize w.alloc (.cells (treA G) 113)=w0 at *
 clear HD HTA
 have HIX:=Lib.hid (show ∀(w:World) (i:Nat),i<16→(ixR 58 (.agg (nodA G)) (.int .i64 i)).run Tryz.prog w=.ok (.int .i64 ((37+i:Nat):Int)) w from fun w i hi=>by rw[ix_is w G hi,HG.out i hi])
 generalize nodA G=NN at *
 go_wp2_with fail
 clear l0 HR0
 go_loopw [6,16] (fun ov iv wr=>∃i v,i≤16∧v=ov∧iv=.int .i64 (i:Nat)∧Hid (Below w.heap.size w0 wr)∧Hid (Below w0.heap.size w0 wr)∧Hid (∃nd,OG w0.heap.size wr v (2*i) y nd)) (fun ov iv _=>16-(intOf iv).toNat)
 case atStart=>exact⟨0,_,by omega,rfl,rfl,Lib.hid (Below.refl _ _),Lib.hid (Below.refl _ _),Lib.hid ⟨fun _=>nd0,World.ownsRow_nil _ _ _ _,fun i hi=>by omega,fun i hi=>by omega,fun i hi=>by omega⟩⟩
 case round=>
  obtain⟨i,v,hi0,rfl,rfl,HB,HBB,HO⟩:=hrel
  by_cases hi:i<16
  ·have j0:(0:Int)≤i:=by omega
   have j1:(i:Int)<16:=by omega
   have hx:=HIX.out wr i hi
   have HRD:=Lib.hid (read_is (HD0.out.keep HBB.out) (k:=37+i) (by omega))
   have HSL:=Lib.hid (sect_len HD0.out.lf (k:=37+i) (by omega))
   go_upto_region 6 with (go_at_call 47;refine HRD.out.mono ?_;rintro e5 w5 ⟨v5,rfl,ho5,hb5⟩)
   obtain⟨p5,c5,rfl⟩:=own_form ho5
   obtain⟨b,o,rfl,hc⟩:=own_cells ho5 HSL.out (by decide)
   have hcap:64≤c5∧c5≤maxLen:=by
    obtain⟨a',cap',e1,e2,e3,-⟩:=at_of_owned (f:=Value.int .u8) (d:=0) (xs:=sect f (37+i)) (by rw[HSL.out];exact ho5)
    injection e1 with _ _ e1
    rw[HSL.out] at e2
    subst e1
    exact⟨e2,e3⟩
   have HCAP:=Lib.hid hcap
   have hc1:=hcap.1
   have HSEC:Hid (Sec w5 v b o f i):=Lib.hid ⟨(ho5.lt b rfl).2,fun e=>by have h1:=(HO.out.choose_spec.o.lt b e).2;have h2:=(ho5.lt b rfl).1;omega,fun j hj=>by
        have:=hc j (u8V ((sect f (37+i)).getD j 0)) (by rw[List.getElem?_map];simp[List.getD,HSL.out,hj])
        rw[Addr.add_lit] at this
        rw[this,sect_get hj]⟩
   have HB5:=Lib.hid (HB.out.trans (hb5.mono (Nat.le_trans HB0.out.size HBB.out.size)))
   have HBB5:=Lib.hid (HBB.out.trans (hb5.mono HBB.out.size))
   have HO5:Hid (∃nd,OG w0.heap.size w5 v (2*i+0) y nd):=Lib.hid (HO.out.imp fun _ q=>q.keep hb5)
   clear HB HBB HO hcap hc ho5 hb5 HRD hx
   go_wp2_with fail
   go_loopw [6,27] (fun ov hv wr=>∃h v,h≤2∧v=ov∧hv=.int .i64 (h:Nat)∧Hid (Below w.heap.size w0 wr)∧Hid (Below w0.heap.size w0 wr)∧Hid (∃nd,OG w0.heap.size wr v (2*i+h) y nd)∧Hid (Sec wr v b o f i)) (fun ov hv _=>2-(intOf hv).toNat)
   case atStart=>exact⟨0,_,by omega,rfl,rfl,HB5,HBB5,HO5,HSEC⟩
   case round=>
    clear HB5 HBB5 HO5 HSEC
    obtain⟨h,v,hh0,rfl,rfl,HB,HBB,HO,HSEC⟩:=hrel
    by_cases hh:h<2
    ·have HU:=Lib.hid (HUU.out (2*i+h) (by omega) wr _ (HSEC.out.atG HN.out hi hh HCAP.out.1 HCAP.out.2))
     have HST:=Lib.hid (fun (w:World) (x:Nd) (hx:x.pv.oneCell'=true)=>st0_new w (T:=120) (c:=#[.int .i64 0,.int .i64 0,.int .i64 0,.int .i64 0,.int .i64 0,.int .i64 0,.int .i64 0,.slice none 0 0]) (cs:=ndA x) rfl (by rw[ndA_size];kernel_rfl) (ndA_one x hx))
     have HBS:=Lib.hid bsG
     have HLD:=Lib.hid (fun (w:World) (b:Nat) (x:Nd) (hr:Row w b 120 (ndA x))=>hr.ld0 (d:=_) Tryz.underlying120 rfl (by rw[ndA_size];kernel_rfl))
     have h01:h=0∨h=1:=by omega
     clear hh0 hh
     rcases h01 with rfl|rfl
     ·go_upto_region 12 with (go_at_call 112;(first|refine HU.out.mono ?_|(simp only[Nat.reduceSub,Nat.reduceMul,Nat.reduceAdd];refine HU.out.mono ?_));rintro e6 w6 ⟨x6,rfl,hs6,hp6,hb6⟩;have st6:=HST.out w6 x6 hp6.one)
      have HP6:=Lib.hid (And.intro hs6 hp6)
      have HBB8S:Hid (w0.heap.size≤wr.heap.size):=Lib.hid HBB.out.size
      have HL6:Hid (wr.heap.size≤w6.heap.size):=Lib.hid hb6.size
      have HR7:=Lib.hid (row_new w6 120 (ndA x6))
      have hal:=Go.Joins.below_alloc1 w6 (.cells (ndA x6) 120)
      have HB7:=Lib.hid (HB.out.trans ((hb6.trans (hal.mono hb6.size)).mono (Nat.le_trans HB0.out.size HBB.out.size)))
      have HBB7:=Lib.hid (HBB.out.trans ((hb6.trans (hal.mono hb6.size)).mono HBB.out.size))
      have HO7:=Lib.hid (HO.out.imp fun _ q=>(q.keep hb6).keep hal)
      have HP7:=Lib.hid (HP6.out.2.keep hal)
      have HLv:Hid (∀j,v.ownBlock=some j→j<wr.heap.size):=Lib.hid (fun j e=>(HO.out.choose_spec.o.lt j e).2)
      have HS7:=Lib.hid ((HSEC.out.keep hb6).keep hal)
      clear hb6 hal st6 HB HBB HO HSEC HU HST hs6 hp6
      generalize w6.alloc (.cells (ndA x6) 120)=w7 at *
      have l7:=HLD.out w7 _ x6 HR7.out
      have b7:=HBS.out w7 x6 HP7.out.s
      obtain⟨nd7,ho7⟩:=HO7.out
      obtain⟨p8,c8,w8,hap,ho8,hb8,hg8,hf8⟩:=ho7.push HBB7.out.size (by omega) (HP7.out.base HBB8S.out) (fun j e q=>by have:=HLv.out j q;have:=(HP6.out.2.o j e).1;omega) HP6.out.1
      clear ho7
      have HO8:Hid (∃nd,OG w0.heap.size w8 (.slice p8 (2*i+0+1) c8) (2*i+1) y nd):=Lib.hid ho8
      have HB8:=Lib.hid (HB7.out.trans (hb8.mono HB0.out.size))
      have HBB8:=Lib.hid (HBB7.out.trans hb8)
      have HS8:=Lib.hid (HS7.out.push hg8 hf8)
      clear ho8 hb8 hg8 hf8 HO7 HB7 HBB7 HS7
      go_wp2_with fail
      go_roundw
      case rel=>exact⟨1,_,by omega,rfl,by go_num,HB8,HBB8,HO8,HS8⟩
      case measure=>simp[intOf]
     ·go_upto_region 12 with (go_at_call 112;(first|refine HU.out.mono ?_|(simp only[Nat.reduceSub,Nat.reduceMul,Nat.reduceAdd];refine HU.out.mono ?_));rintro e6 w6 ⟨x6,rfl,hs6,hp6,hb6⟩;have st6:=HST.out w6 x6 hp6.one)
      have HP6:=Lib.hid (And.intro hs6 hp6)
      have HBB8S:Hid (w0.heap.size≤wr.heap.size):=Lib.hid HBB.out.size
      have HL6:Hid (wr.heap.size≤w6.heap.size):=Lib.hid hb6.size
      have HR7:=Lib.hid (row_new w6 120 (ndA x6))
      have hal:=Go.Joins.below_alloc1 w6 (.cells (ndA x6) 120)
      have HB7:=Lib.hid (HB.out.trans ((hb6.trans (hal.mono hb6.size)).mono (Nat.le_trans HB0.out.size HBB.out.size)))
      have HBB7:=Lib.hid (HBB.out.trans ((hb6.trans (hal.mono hb6.size)).mono HBB.out.size))
      have HO7:=Lib.hid (HO.out.imp fun _ q=>(q.keep hb6).keep hal)
      have HP7:=Lib.hid (HP6.out.2.keep hal)
      have HLv:Hid (∀j,v.ownBlock=some j→j<wr.heap.size):=Lib.hid (fun j e=>(HO.out.choose_spec.o.lt j e).2)
      have HS7:=Lib.hid ((HSEC.out.keep hb6).keep hal)
      clear hb6 hal st6 HB HBB HO HSEC HU HST hs6 hp6
      generalize w6.alloc (.cells (ndA x6) 120)=w7 at *
      have l7:=HLD.out w7 _ x6 HR7.out
      have b7:=HBS.out w7 x6 HP7.out.s
      obtain⟨nd7,ho7⟩:=HO7.out
      obtain⟨p8,c8,w8,hap,ho8,hb8,hg8,hf8⟩:=ho7.push HBB7.out.size (by omega) (HP7.out.base HBB8S.out) (fun j e q=>by have:=HLv.out j q;have:=(HP6.out.2.o j e).1;omega) HP6.out.1
      clear ho7
      have HO8:Hid (∃nd,OG w0.heap.size w8 (.slice p8 (2*i+1+1) c8) (2*i+2) y nd):=Lib.hid ho8
      have HB8:=Lib.hid (HB7.out.trans (hb8.mono HB0.out.size))
      have HBB8:=Lib.hid (HBB7.out.trans hb8)
      have HS8:=Lib.hid (HS7.out.push hg8 hf8)
      clear ho8 hb8 hg8 hf8 HO7 HB7 HBB7 HS7
      go_wp2_with fail
      go_roundw
      case rel=>exact⟨2,_,by omega,rfl,by go_num,HB8,HBB8,HO8,HS8⟩
      case measure=>simp[intOf]
    ·obtain rfl:h=2:=by omega
     have HO2:Hid (∃nd,OG w0.heap.size wr v (2*(i+1)) y nd):=HO
     go_wp2_with fail
     go_roundw
     case rel=>exact⟨i+1,_,by omega,rfl,by go_num,HB,HBB,HO2⟩
     case measure=>simp[intOf];omega
  ·obtain rfl:i=16:=by omega
   go_wp2_with fail
   go_ret2
   obtain⟨nd,ho⟩:=HO.out
   exact⟨_,nd,rfl,ho.base HB0.out.size,HB0.out.trans HB.out⟩
end
theorem OG.ld {B n c g:Nat} {w:World} {y nd:Nat→Nd}(h:OG B w (.slice (some ⟨g,0,none⟩) n c) n y nd) {i:Nat}(hi:i<n):(ldR 120 (.pointer (some ⟨g,i*8,none⟩))).run Tryz.prog w=.ok (.agg (ndA (nd i))) w:=by
 have hr:w.rangeAt g (i*8) (ndA (nd i)).toList:=fun j v hv=>by
  have hj:j<8:=by
   have:=(List.getElem?_eq_some_iff.1 hv).1
   simpa [ndA] using this
  have:=h.o.cells (g:=g) rfl (i*8+j) v (by rw[ndsC_get nd n hi hj,← Array.getElem?_toList];exact hv)
  rw[Addr.add_lit] at this
  simpa using this
 have:=run_loadAt_mid (P:=Tryz.prog) w g (i*8) 120 _ _ hr Tryz.underlying120 rfl (by kernel_rfl)
 rw[Array.toArray_toList] at this
 exact this
theorem OG.addr {B n c:Nat} {w:World} {p:Option Addr} {y nd:Nat→Nd}(h:OG B w (.slice p n c) n y nd)(h0:0<n):∃g,p=some ⟨g,0,none⟩:=by
 obtain⟨g,e,_⟩:=own_block h.o h0
 exact⟨g,e⟩
attribute [local go_sem ↓] ld_ino st_ino2
theorem lostG_is {w:World} {B:Nat} {v:Value} {y nd:Nat→Nd}(h:OG B w v 32 y nd)(hy:∀i,i<32→(y i).k=0∨(y i).l≠0):Calls Tryz.prog 52 #[v,.slice none 0 0] w fun e w'=>e=.returned (.slice none 0 0)∧Below w.heap.size w w':=by
 obtain⟨p,c,rfl⟩:=own_form h.o
 obtain⟨g,rfl⟩:=h.addr (by decide)
 have HO:=Lib.hid h
 have HY:=Lib.hid hy
 clear h hy
 go_enter Tryz.func52,Tryz.ntmps52
 go_wp2_with fail
 go_loopw [5,10] (fun ov iv wr=>∃i,i≤32∧ov=.slice none 0 0∧iv=.int .i64 (i:Nat)∧Hid (Below w.heap.size w wr)) (fun ov iv _=>32-(intOf iv).toNat)
 case atStart=>exact⟨0,by omega,rfl,rfl,Lib.hid (Below.refl _ _)⟩
 case round=>
  obtain⟨i,hi0,rfl,rfl,HB⟩:=hrel
  by_cases hi:i<32
  ·have j0:(0:Int)≤i:=by omega
   have j1:(i:Int)<32:=by omega
   have l1:=(HO.out.keep HB.out).ld hi
   obtain⟨x,hx⟩:∃x,x=nd i:=⟨_,rfl⟩
   have hs:=HO.out.s i hi
   have hp:=(HO.out.p i hi).one
   have hk0:x.k=0∨x.l≠0:=by
    have e1:(nd i).k=(y i).k:=by rw[hs.1]
    have e2:(nd i).l=(y i).l:=by rw[hs.1]
    have:=HY.out i hi
    rw[hx,e1,e2]
    exact this
   rw[← hx] at l1 hp
   have st1:=st0_new wr (T:=120) (c:=#[.int .i64 0,.int .i64 0,.int .i64 0,.int .i64 0,.int .i64 0,.int .i64 0,.int .i64 0,.slice none 0 0]) (cs:=ndA x) rfl (by rw[ndA_size];kernel_rfl) (ndA_one x hp)
   have HB2:=Lib.hid (HB.out.alloc HB.out.size (.cells (ndA x) 120))
   have hr:=row_new wr 120 (ndA x)
   have c0:(wr.alloc (.cells (ndA x) 120)).cell? ⟨wr.heap.size,0,none⟩=some (.int .i64 x.k):=by rw[hr.cell];rfl
   have c5:(wr.alloc (.cells (ndA x) 120)).cell? ⟨wr.heap.size,5,none⟩=some (.int .i64 x.l):=by rw[hr.cell];rfl
   have d0:(ndA x)[0]?=some (.int .i64 x.k):=rfl
   have d5:(ndA x)[5]?=some (.int .i64 x.l):=rfl
   generalize ndA x=A at *
   generalize x.k=xk at *
   generalize x.l=xl at *
   clear hr hs hp hx
   by_cases h0:xk=0
   ·subst h0
    clear hk0
    go_wp2_with fail
    go_roundw
    case rel=>exact⟨i+1,by omega,rfl,by go_num,HB2⟩
    case measure=>simp[intOf];omega
   ·have h1:¬xl=0:=by omega
    clear hk0
    go_wp2_with fail
    go_roundw
    case rel=>exact⟨i+1,by omega,rfl,by go_num,HB2⟩
    case measure=>simp[intOf];omega
  ·obtain rfl:i=32:=by omega
   go_wp2_with fail
   go_ret
   exact⟨rfl,HB.out⟩
structure FmtG (f:List Int) (G:Nat→Nat) (y:Nat→Nd) (bl:Nat→List Int):Prop where
 s4:sect f 4=zeros 64
 fo:catS f 3=pkS G 4
 fl:FL G
 gk:∀i,i<16→G i=37+i
 nd:NG f bl
 un:∀c,c<32→NUnp (bl c) (y c)
 lo:∀i,i<32→(y i).k=0∨(y i).l≠0
def fsAG (G:Nat→Nat) (d l v:Value) (a b:Nat):Array Value:=#[d,l]++forA G++#[.slice none 0 0,v,.map (some a),.map (some b)]
theorem bd_runG (G:Nat→Nat) (w:World) (x y z:Option Addr) (n c:Nat) (a b:Nat):(bdR 137 #[(0,.pointer x),(1,.pointer y),(2,.agg (forA G)),(3,.slice none 0 0),(4,.slice z n c),(5,.map (some a)),(6,.map (some b))]).run Tryz.prog w=.ok (.agg (fsAG G (.pointer x) (.pointer y) (.slice z n c) a b)) w:=by kernel_rfl
structure FSg (w:World) (B F D L a b N cap q:Nat) (wv:Value) (G:Nat→Nat) (y nd:Nat→Nd):Prop where
 f:w.heap[F]?=some (.cells (fsAG G (.pointer (some ⟨D,0,none⟩)) (.pointer (some ⟨L,0,none⟩)) (.slice (some ⟨N,0,none⟩) 32 cap) a b) 137 (0,0))
 ma:w.heap[a]?=some (.map #[] 0)
 mb:w.heap[b]?=some (.map #[] 0)
 lg:LogR w L D q
 bd:∃B1,OG B1 w (.slice (some ⟨N,0,none⟩) 32 cap) 32 y nd∧B≤L∧L<B1∧(∀j,wv.ownBlock=some j→B≤j∧j≠L∧j<B1)∧B1<a∧N<a∧(∀i,i<32→∀j,(nd i).pv.ownBlock=some j→j<a)∧a<b∧b<F
theorem OG.upd {B n:Nat} {S:Nat→Prop} {w w':World} {v:Value} {y nd:Nat→Nd}(h:OG B w v n y nd)(hu:Upd S w w')(hS:∀k,S k→k<B):OG B w' v n y nd:=
 ⟨hu.owns h.o (fun j e q=>by have:=hS _ q;have:=(h.o.lt j e).1;omega),h.s,fun i hi=>⟨(h.p i hi).a.upd8 hu (fun j e q=>by have:=hS _ q;have:=((h.p i hi).o j e).1;omega),fun j e=>⟨((h.p i hi).o j e).1,Nat.lt_of_lt_of_le ((h.p i hi).o j e).2 hu.size⟩⟩,h.d⟩
theorem FSg.updB {S:Nat→Prop} {w w':World} {B F D L a b N cap q:Nat} {wv:Value} {G:Nat→Nat} {y nd:Nat→Nd}(h:FSg w B F D L a b N cap q wv G y nd)(hu:Upd S w w')(hS:∀k,S k→k<B):FSg w' B F D L a b N cap q wv G y nd:=by
 have lt:∀ {k o},w.heap[k]?=some o→k<w.heap.size:=fun h=>(Array.getElem?_eq_some_iff.1 h).1
 obtain⟨B1,h1,h2,h3,h4,h5,h6,h7,h8,h9⟩:=h.bd
 exact⟨(hu.block F (lt h.f) (fun q=>by have:=hS _ q;omega)).trans h.f,(hu.block a (lt h.ma) (fun q=>by have:=hS _ q;omega)).trans h.ma,(hu.block b (lt h.mb) (fun q=>by have:=hS _ q;omega)).trans h.mb,Row.upd h.lg hu (fun q=>by have:=hS _ q;omega),B1,h1.upd hu (fun k q=>by have:=hS _ q;omega),h2,h3,h4,h5,h6,h7,h8,h9⟩
theorem FSg.keep {w w':World} {B F D L a b N cap q:Nat} {wv:Value} {G:Nat→Nat} {y nd:Nat→Nd}(h:FSg w B F D L a b N cap q wv G y nd)(hb:Below w.heap.size w w'):FSg w' B F D L a b N cap q wv G y nd:=h.updB (S:=fun _=>False) (Upd.below hb) (fun _ e=>e.elim)
attribute [local go_sem ↓] ld_for ld_tre st_for bd_fs
section
variable {w w':World} {D sb nb m:Nat} {s f:List Int} {G:Nat→Nat} {y:Nat→Nd} {bl:Nat→List Int}
theorem mountG_is (h:Dk w D sb nb (.slice none 0 0) m 256 s f)(hm0:sect f 0=markL) {q:Nat} {l:List WR}(hj:JOk f q l)(ho:WrOk l)(h64:∀y∈l,y.l.length=64)(h0:l≠[])(hq:q<4294967296)(hm:m≤1000)(hf:FmtG (wrAll f l) G y bl):Calls Tryz.prog 22 #[.pointer (some ⟨D,0,none⟩)] w fun e w'=>∃F L a b N cap wv' m' nd,e=.returned (.tuple #[.pointer (some ⟨F,0,none⟩),.int .i64 0])∧FSg w' w.heap.size F D L a b N cap q wv' G y nd∧Dk w' D sb nb wv' m' 256 s (wrAll f l)∧Upd (fun j=>j=D∨j=sb∨j=nb) w w':=by
 have hmm:=@run_makeMap Tryz.prog
 have HD:=Lib.hid h
 have HF:=Lib.hid hf
 have HRD:=Lib.hid (read_is h (k:=0) (by decide))
 rw[hm0] at HRD
 have hz:Tryz.zeroCells115=forA (fun _=>0):=by kernel_rfl
 have HJJ:=Lib.hid (And.intro hj (And.intro ho (And.intro h64 (And.intro h0 (And.intro hq hm)))))
 clear h hf hj ho h64 h0 hq hm hm0
 go_enter Tryz.func22,Tryz.ntmps22
 go_upto_region 2 with (go_at_call 47;refine HRD.out.mono ?_;rintro e1 w1 ⟨v1,rfl,ho1,hb1⟩)
 have HD1:=Lib.hid (HD.out.keep hb1)
 have HB1:=Lib.hid hb1
 have HA1:=Lib.hid (at_of_owned (f:=Value.int .u8) (d:=0) (xs:=markL) ho1)
 have HSZ:=Lib.hid (size_is HD1.out)
 have HMK:=Lib.hid (mark_is w1)
 clear ho1 hb1 HRD HD
 go_upto_region 4 with (first|(go_at_call 40;refine HSZ.out.mono ?_;rintro e2 w2 ⟨rfl,rfl⟩)|(go_at_call 45;refine HMK.out.mono ?_;rintro e2 w2 ⟨v2,rfl,ho2,hb2⟩;have HD2:=Lib.hid (HD1.out.keep hb2);have HB2:=Lib.hid (HB1.out.trans (hb2.mono HB1.out.size));have HEQ:=Lib.hid (equalB_is (by decide) (HA1.out.keep hb2) ho2.at);clear ho2 hb2)|(go_at_call 10;refine HEQ.out.mono ?_;rintro e3 w3 ⟨rfl,hb3⟩;have HD3:=Lib.hid (HD2.out.keep hb3);have HB3:=Lib.hid (HB2.out.trans (hb3.mono HB2.out.size));clear hb3))
 clear HD1 HD2 HB1 HB2 HA1 HSZ HMK HEQ
 have HJ:=Lib.hid (jopen2_is HD3.out HJJ.out.1 HJJ.out.2.1 HJJ.out.2.2.1 HJJ.out.2.2.2.1 HJJ.out.2.2.2.2.1 HJJ.out.2.2.2.2.2)
 go_upto_region 5 with (go_at_call 48;refine HJ.out.mono ?_;rintro e4 w4 ⟨L,rfl,hL,hlog,⟨wv4,m4,hd4,hwv4,hm4⟩,hb4⟩)
 have HD4:=Lib.hid hd4
 have HB4:Hid (Upd (fun j=>j=D∨j=sb∨j=nb) w w4):=Lib.hid ((Upd.below HB3.out).trans hb4)
 have HWV:Hid (∀j,wv4.ownBlock=some j→w.heap.size≤j∧j≠L∧j<w4.heap.size):=Lib.hid (fun j e=>⟨Nat.le_trans HB3.out.size (hwv4 j e).1,(hwv4 j e).2,by obtain⟨xs,ho⟩:=hd4.own;exact(ho.lt j e).2⟩)
 have HL4:Hid (w.heap.size≤L):=Lib.hid (Nat.le_trans HB3.out.size hL)
 have HLL:Hid (Row w4 L 230 _):=Lib.hid hlog
 have HLT:Hid (L<w4.heap.size):=Lib.hid (Row.lt hlog)
 clear HD3 HB3 HJ hL hlog hb4 hd4 hwv4 hm4
 have HCL:=Lib.hid (cload_is HD4.out HF.out.fl HF.out.fo)
 have HSA:=Lib.hid (forA_size G)
 have HZS:=Lib.hid (forA_size (fun _=>0))
 have HO1:=Lib.hid (forA_one G)
 have hbd:=bd_runG G
 obtain⟨Z,hZ⟩:∃Z,Z=forA (fun _=>0):=⟨_,rfl⟩
 rw[← hZ] at hz HZS
 obtain⟨A,hA⟩:∃A,A=forA G:=⟨_,rfl⟩
 rw[← hA] at HCL HSA HO1 hbd
 have HAE:=Lib.hid hA
 clear hA hZ
 go_upto_region 8 with (go_at_call 49;refine HCL.out.mono ?_;rintro e5 w5 ⟨rfl,hb5⟩;have st5:=st0_new w5 (T:=115) (c:=Z) (cs:=A) (by rw[HSA.out,HZS.out]) (by rw[HSA.out];kernel_rfl) HO1.out)
 have HR5:=Lib.hid (row_new w5 115 A)
 have hal:=(hb5.trans ((Go.Joins.below_alloc1 w5 (.cells A 115)).mono hb5.size))
 have HD5:=Lib.hid (HD4.out.keep hal)
 have HB5:=Lib.hid (HB4.out.trans (Upd.below hal))
 have HL5:=Lib.hid (HLL.out.keep hal)
 have HZ45:=Lib.hid hal.size
 clear HD4 HB4 HLL HCL hal hb5 st5
 have HZ46X:Hid (w4.heap.size≤(w5.alloc (.cells A 115)).heap.size):=HZ45
 generalize w5.alloc (.cells A 115)=w6 at *
 have HZ6:Hid (w.heap.size≤w6.heap.size):=Lib.hid HB5.out.size
 have HZ46:Hid (w4.heap.size≤w6.heap.size):=HZ46X
 have l6:(ldR 113 (.pointer (some ⟨w5.heap.size,0,none⟩))).run Tryz.prog w6=.ok (.agg (treA G)) w6:=by
  have:=HR5.out.ld (o:=0) (n:=48) (by rw[HSA.out];decide) Tryz.underlying113 rfl (by kernel_rfl)
  have e:=forA_tre G (k:=0) (by decide)
  rw[Nat.zero_mul] at e
  rw[HAE.out,e] at this
  simpa using this
 have HCT:=Lib.hid (ctreeG_is HD5.out HF.out.nd HF.out.un HF.out.gk)
 generalize treA G=T0 at *
 go_upto_region 11 with (go_at_call 50;refine HCT.out.mono ?_;rintro e7 w7 ⟨v7,nd7,rfl,ho7,hb7⟩)
 have HD7:=Lib.hid (HD5.out.keep hb7)
 have HB7:=Lib.hid (HB5.out.trans (Upd.below hb7))
 have HL7:=Lib.hid (HL5.out.keep hb7)
 have HR7:=Lib.hid (HR5.out.keep hb7)
 have HN7:=Lib.hid ho7
 clear HD5 HB5 HL5 HR5 HCT l6 ho7 hb7
 have HRQ:=Lib.hid (read_is HD7.out (k:=4) (by decide))
 rw[HF.out.s4] at HRQ
 go_upto_region 14 with (go_at_call 47;refine HRQ.out.mono ?_;rintro e8 w8 ⟨v8,rfl,ho8,hb8⟩)
 have HB8:=Lib.hid (HB7.out.trans (Upd.below hb8))
 have HL8:=Lib.hid (HL7.out.keep hb8)
 have HR8:=Lib.hid (HR7.out.keep hb8)
 have HN8:=Lib.hid (HN7.out.keep hb8)
 have HD8:=Lib.hid (HD7.out.keep hb8)
 have HQU:=Lib.hid (qunpack_is (at_of_owned (f:=Value.int .u8) (d:=0) (xs:=zeros 64) ho8))
 clear HD7 HB7 HL7 HR7 HN7 HRQ ho8 hb8
 go_upto_region 15 with (go_at_call 51;refine HQU.out.mono ?_;rintro e9 w9 ⟨rfl,hb9⟩)
 have HB9:=Lib.hid (HB8.out.trans (Upd.below hb9))
 have HL9:=Lib.hid (HL8.out.keep hb9)
 have hr9:=HR8.out.keep hb9
 have HN9:=Lib.hid (HN8.out.keep hb9)
 have HD9:=Lib.hid (HD8.out.keep hb9)
 have l9:=hr9.ld0 Tryz.underlying115 rfl (by rw[HSA.out];kernel_rfl)
 clear HB8 HL8 HR8 HN8 HQU hb9 hr9
 obtain⟨p7,c7,rfl⟩:=own_form HN9.out.o
 obtain⟨N7,rfl⟩:=HN9.out.addr (by decide)
 have HZ69:Hid (w6.heap.size<w9.heap.size):=Lib.hid (by have:=HN9.out.o.lt N7 rfl;omega)
 go_upto_region 18 with fail
 have hal:Below w9.heap.size w9 (((w9.alloc (.map #[] 0)).alloc (.map #[] 0)).alloc (.cells (fsAG G (.pointer (some ⟨D,0,none⟩)) (.pointer (some ⟨L,0,none⟩)) (.slice (some ⟨N7,0,none⟩) 32 c7) w9.heap.size (w9.heap.size+1)) 137)):=(((Below.refl _ _).alloc (Nat.le_refl _) _).alloc (by simp) _).alloc (by simp;omega) _
 have HFS:Hid (FSg (((w9.alloc (.map #[] 0)).alloc (.map #[] 0)).alloc (.cells (fsAG G (.pointer (some ⟨D,0,none⟩)) (.pointer (some ⟨L,0,none⟩)) (.slice (some ⟨N7,0,none⟩) 32 c7) w9.heap.size (w9.heap.size+1)) 137)) w.heap.size (w9.heap.size+2) D L w9.heap.size (w9.heap.size+1) N7 c7 q wv4 G y nd7):=Lib.hid (by
    refine⟨?_,?_,?_,HL9.out.keep hal,w6.heap.size,HN9.out.keep hal,HL4.out,Nat.lt_of_lt_of_le HLT.out HZ46.out,fun j e=>⟨(HWV.out j e).1,(HWV.out j e).2.1,Nat.lt_of_lt_of_le (HWV.out j e).2.2 HZ46.out⟩,HZ69.out,(HN9.out.o.lt N7 rfl).2,fun i hi j e=>((HN9.out.p i hi).o j e).2,by omega,by omega⟩
    · have:=heap_alloc_new ((w9.alloc (.map #[] 0)).alloc (.map #[] 0)) (.cells (fsAG G (.pointer (some ⟨D,0,none⟩)) (.pointer (some ⟨L,0,none⟩)) (.slice (some ⟨N7,0,none⟩) 32 c7) w9.heap.size (w9.heap.size+1)) 137)
      simpa using this
    · rw[Below.heap_alloc _ _ _ (by simp;omega),Below.heap_alloc _ _ _ (by simp)]
      exact heap_alloc_new _ _
    · rw[Below.heap_alloc _ _ _ (by simp)]
      have:=heap_alloc_new (w9.alloc (.map #[] 0)) (.map #[] 0)
      simpa using this)
 have HDK:=Lib.hid (HD9.out.keep hal)
 have HB10:=Lib.hid (HB9.out.trans (Upd.below hal))
 have HN10:=Lib.hid (HN9.out.keep hal)
 clear hal HB9 HL9 HN9 l9
 generalize ((w9.alloc (.map #[] 0)).alloc (.map #[] 0)).alloc (.cells (fsAG G (.pointer (some ⟨D,0,none⟩)) (.pointer (some ⟨L,0,none⟩)) (.slice (some ⟨N7,0,none⟩) 32 c7) w9.heap.size (w9.heap.size+1)) 137)=w10 at *
 have HLO:=Lib.hid (lostG_is HN10.out HF.out.lo)
 go_upto_region 19 with (go_at_call 52;refine HLO.out.mono ?_;rintro e11 w11 ⟨rfl,hb11⟩)
 have HB11:=Lib.hid (HB10.out.trans (Upd.below hb11))
 have HD11:=Lib.hid (HDK.out.keep hb11)
 have HFS11:=Lib.hid (HFS.out.keep hb11)
 clear hb11 HLO HB10 HN10 HFS
 refine wp_loop_rounds 1 ?_
 rw[rounds_succ]
 go_wp2_with fail
 go_ret2
 exact⟨_,_,_,_,_,_,_,_,_,rfl,HFS11.out,HD11.out,HB11.out⟩
end
structure AgM (c:FC) (x:FM) (F D B q:Nat) (G:Nat→Nat) (nd:Nat→Nd) (f:List Int):Prop where
 eF:c.F=F
 eD:c.D=D
 en:x.nd=nd
 eG:x.G=G
 td:∀p,x.td p=none
 na:x.na=0
 ef:x.f=f
 nh:x.nh=0
 held:∀n,x.held n=none
 bs:∀j,x.bs j→(B≤j∧j≤F)∨j=c.D∨j=c.sb∨j=c.nb
theorem FSg.toFSt {w:World} {B F D L a b N cap q sb nb m:Nat} {wv:Value} {G:Nat→Nat} {y nd:Nat→Nd} {s f:List Int}(h:FSg w B F D L a b N cap q wv G y nd)(hd:Dk w D sb nb wv m 256 s f)(hB:D<B∧sb<B∧nb<B)(hl:Lone1 G)(hr:FR G):∃c x,FSt w c x∧AgM c x F D B q G nd f∧c.sb=sb∧c.nb=nb:=by
 have lt:∀ {k o},w.heap[k]?=some o→k<w.heap.size:=fun h=>(Array.getElem?_eq_some_iff.1 h).1
 obtain⟨B1,h2,h3,h4,h5,h6,h7,h8,h9,h10⟩:=h.bd
 obtain⟨N',cap',C,e,hN,hc1,hc2,hnb⟩:=NB.of_own (nd:=nd) h2.o
 injection e with e1 _ e2
 have e1:N=N':=by injection e1 with e1;injection e1
 subst e1
 subst e2
 obtain⟨xs,ho⟩:=hd.own
 refine⟨⟨F,D,L,b,sb,nb⟩,⟨G,N,cap,nd,a,0,fun _=>none,fun _=>[],0,fun _=>none,q,wv,m,s,f,fun j=>j=F∨j=L∨j=a∨j=b∨j=N∨j=D∨j=sb∨j=nb∨wv.ownBlock=some j∨∃i,i<32∧(nd i).pv.ownBlock=some j,xs⟩,?_,⟨rfl,rfl,rfl,rfl,fun _=>rfl,rfl,rfl,rfl,fun _=>rfl,?_⟩,rfl,rfl⟩
 ·generalize hx:(⟨G,N,cap,nd,a,0,fun _=>none,fun _=>[],0,fun _=>none,q,wv,m,s,f,fun j=>j=F∨j=L∨j=a∨j=b∨j=N∨j=D∨j=sb∨j=nb∨wv.ownBlock=some j∨∃i,i<32∧(nd i).pv.ownBlock=some j,xs⟩:FM)=x
  have hm:∀j,fMut ⟨F,D,L,b,sb,nb⟩ x j→j=F∨j=a∨j=b∨j=L∨j=D∨j=sb∨j=nb∨wv.ownBlock=some j:=by
   subst hx
   rintro j (e|e|e|e|e|e|e|e)
   ·exact .inl e
   ·exact .inr (.inl e)
   ·exact .inr (.inr (.inl e))
   ·exact .inr (.inr (.inr (.inl e)))
   ·exact .inr (.inr (.inr (.inr (.inl e))))
   ·exact .inr (.inr (.inr (.inr (.inr (.inl e)))))
   ·exact .inr (.inr (.inr (.inr (.inr (.inr (.inl e))))))
   ·exact .inr (.inr (.inr (.inr (.inr (.inr (.inr e))))))
  have hD:∀j,fDk ⟨F,D,L,b,sb,nb⟩ x j→j=D∨j=sb∨j=nb∨wv.ownBlock=some j:=by
   subst hx
   rintro j (e|e|e|e)
   ·exact .inl e
   ·exact .inr (.inl e)
   ·exact .inr (.inr (.inl e))
   ·exact .inr (.inr (.inr e))
  have hwv:∀j,wv.ownBlock=some j→B≤j∧j≠L∧j<B1:=h5
  have hnw:∀ {j},(j<B∨j=L∨B1≤j)→¬wv.ownBlock=some j:=fun {j} hj e=>by have:=hwv j e;omega
  have hnN:B1≤N:=hN
  subst hx
  refine⟨h.f,hl,hr,h.lg,⟨C,hnb⟩,⟨hc1,hc2⟩,fun i hi=>⟨⟨(h2.p i hi).a,fun j e q=>?_,fun j e=>((h2.p i hi).o j e).2⟩,fun j e=>.inr (.inr (.inr (.inr (.inr (.inr (.inr (.inr (.inr ⟨i,hi,e⟩))))))))⟩,CMap.of_heap h.ma,fun p s e=>(by cases e),CMap.of_heap h.mb,hd,fun e=>?_,?_,?_,fun j e=>?_,.inr (.inr (.inr (.inr (.inl rfl)))),fun j e=>?_,ho⟩
  ·have h1:=(h2.p i hi).o j e
   have h2':=h8 i hi j e
   rcases hm j q with q|q|q|q|q|q|q|q
   ·omega
   ·omega
   ·omega
   ·omega
   ·omega
   ·omega
   ·omega
   ·have:=hwv j q;omega
  ·rcases hm _ e with q|q|q|q|q|q|q|q
   ·have:N=F:=q;omega
   ·have:N=a:=q;omega
   ·have:N=b:=q;omega
   ·have:N=L:=q;omega
   ·have:N=D:=q;omega
   ·have:N=sb:=q;omega
   ·have:N=nb:=q;omega
   ·have:=hwv N q;omega
  ·refine⟨?_,?_,?_,?_,?_,?_⟩
   ·show F≠a;omega
   ·show F≠b;omega
   ·show F≠L;omega
   ·show a≠b;omega
   ·show a≠L;omega
   ·show b≠L;omega
  ·refine⟨fun e=>?_,fun e=>?_,fun e=>?_,fun e=>?_⟩
   ·have:F=D∨F=sb∨F=nb∨wv.ownBlock=some F:=hD _ e
    rcases this with q|q|q|q
    ·omega
    ·omega
    ·omega
    ·exact hnw (j:=F) (by omega) q
   ·have:a=D∨a=sb∨a=nb∨wv.ownBlock=some a:=hD _ e
    rcases this with q|q|q|q
    ·omega
    ·omega
    ·omega
    ·exact hnw (j:=a) (by omega) q
   ·have:b=D∨b=sb∨b=nb∨wv.ownBlock=some b:=hD _ e
    rcases this with q|q|q|q
    ·omega
    ·omega
    ·omega
    ·exact hnw (j:=b) (by omega) q
   ·have:L=D∨L=sb∨L=nb∨wv.ownBlock=some L:=hD _ e
    rcases this with q|q|q|q
    ·omega
    ·omega
    ·omega
    ·exact hnw (j:=L) (by omega) q
  ·show j=F∨j=L∨j=a∨j=b∨j=N∨j=D∨j=sb∨j=nb∨wv.ownBlock=some j∨∃i,i<32∧(nd i).pv.ownBlock=some j
   rcases hm j e with q|q|q|q|q|q|q|q
   ·exact .inl q
   ·exact .inr (.inr (.inl q))
   ·exact .inr (.inr (.inr (.inl q)))
   ·exact .inr (.inl q)
   ·exact .inr (.inr (.inr (.inr (.inr (.inl q)))))
   ·exact .inr (.inr (.inr (.inr (.inr (.inr (.inl q))))))
   ·exact .inr (.inr (.inr (.inr (.inr (.inr (.inr (.inl q)))))))
   ·exact .inr (.inr (.inr (.inr (.inr (.inr (.inr (.inr (.inl q))))))))
  ·have e:j=F∨j=L∨j=a∨j=b∨j=N∨j=D∨j=sb∨j=nb∨wv.ownBlock=some j∨∃i,i<32∧(nd i).pv.ownBlock=some j:=e
   have g1:=lt h.f
   have g2:=hd.lt
   have g3:=hd.sB.lt
   have g4:=hd.nB.lt
   rcases e with e|e|e|e|e|e|e|e|e|⟨i,hi,e⟩
   ·omega
   ·omega
   ·omega
   ·omega
   ·omega
   ·omega
   ·omega
   ·omega
   ·have:=hwv j e;omega
   ·have:=h8 i hi j e;omega
 ·intro j e
  have e:j=F∨j=L∨j=a∨j=b∨j=N∨j=D∨j=sb∨j=nb∨wv.ownBlock=some j∨∃i,i<32∧(nd i).pv.ownBlock=some j:=e
  show (B≤j∧j≤F)∨j=D∨j=sb∨j=nb
  have hnN:B1≤N:=hN
  rcases e with e|e|e|e|e|e|e|e|e|⟨i,hi,e⟩
  ·omega
  ·omega
  ·omega
  ·omega
  ·omega
  ·omega
  ·omega
  ·omega
  ·have:=h5 j e;omega
  ·have:=h8 i hi j e;have:=((h2.p i hi).o j e).1;omega
end Go.Proofs.YtfkepfncgdlgoaaGreatDoor
