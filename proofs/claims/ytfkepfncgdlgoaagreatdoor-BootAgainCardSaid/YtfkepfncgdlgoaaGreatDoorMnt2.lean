/- path.Walk and path.Last over FS at "f". The walk of fs.Mount at a disk on which nothing is: all that the file system is then. Printed by gen_start2.py. -/
import Derived.Test.YtfkepfncgdlgoaaGreatDoorPathE
import Derived.Test.YtfkepfncgdlgoaaGreatDoorStart
import Derived.Test.YtfkepfncgdlgoaaGreatDoorFsE
namespace Go.Proofs.YtfkepfncgdlgoaaGreatDoor
open Go.RowKit Go.Maps
open Go.RowKit
set_option linter.unusedVariables false
set_option linter.unusedSimpArgs false
set_option maxRecDepth 100000
set_option maxHeartbeats 1000000
section
variable {w:World} {c:FC} {x:FM}
attribute [local go_sem ↓] ld_crd
theorem pWalkN_is {U K:Int} {a:Option Addr} {cap gc cc:Nat}(h:FSt w c x)(hk:(x.nd 0).k=2)(hp:(x.nd 0).ps=[])(hs:(x.nd 0).sz=0)(hU:0≤U∧U≤99)(hK:0≤K∧K≤127)(hc:cap≤maxLen)(h0:w.cell? ⟨gc,0,none⟩=some (.int .i64 1))(h1:1≤cc)(h2:cc≤maxLen)
  (hM:∀w,Calls Tryz.prog 167 #[.agg (stA (x.nd 0)),.agg (crA U K a cap),.int .i64 4] w fun e w'=>e=.returned (.tuple #[.bool true,.int .i64 0])∧Below w.heap.size w w') :
  Calls Tryz.prog 166 #[.iface 64 (.pointer (some ⟨c.F,0,none⟩)),.slice none 0 0,.agg (crA U K a cap),.slice (some ⟨gc,0,none⟩) 1 cc,.string ⟨#[102]⟩,.bool true] w fun e w'=>e=.returned (.tuple #[.slice none 0 0,.int .i64 4])∧Below w.heap.size w w':=by
 have hr:=row_new w 56 (crA U K a cap)
 have l0:=hr.ld0 Tryz.underlying56 rfl (by unfold crA;kernel_rfl)
 have hal:=Go.Joins.below_alloc1 w (.cells (crA U K a cap) 56)
 have hlt:gc<w.heap.size:=World.block_lt_of_cell? w _ h0
 have HS:=Lib.hid (pstart_is (w.alloc (.cells (crA U K a cap) 56)) c.F hU hK a cap hc ((hal.cell (p:=⟨gc,0,none⟩) hlt).trans h0) h1 h2)
 have h':=h.keep hal
 have HW:Hid (∀w1 W sp cp gl cl,Below (w.alloc (.cells (crA U K a cap) 56)).heap.size (w.alloc (.cells (crA U K a cap) 56)) w1→Row w1 W 366 (wkA c.F U K a cap (.slice sp 1 cp))→w1.ownsRow (w.alloc (.cells (crA U K a cap) 56)).heap.size 3 1 (.slice sp 1 cp) 1 [.int .i64 1]→w1.cell? ⟨gl,0,none⟩=some (.string ⟨#[102]⟩)→1≤cl→cl≤maxLen→Calls Tryz.prog 239 #[.pointer (some ⟨W,0,none⟩),.slice (some ⟨gl,0,none⟩) 1 cl,.bool true] w1 fun e w'=>e=.returned (.int .i64 4)∧Below w1.heap.size w1 w'):=Lib.hid (fun w1 W sp cp gl cl hb hw ho hgl k1 k2=>by
    obtain⟨g,rfl,hgB,hg,q1,q2,q3⟩:=own1 ho
    exact pwalkN_is (h'.keep hb) hk hp hs hw q3 q1 q2 hM hgl k1 k2)
 have HB:=Lib.hid hal
 clear hr hal hlt h h' hk hp hs hU hK hc h0 h1 h2 hM
 generalize crA U K a cap=A at *
 generalize hw0:w.alloc (.cells A 56)=w0 at *
 go_enter Tryz.func166,Tryz.ntmps166
 go_upto_region 4 with (go_at_call 238;(with_reducible refine HS.out.mono ?_);rintro e1 w1 ⟨W,sp,cp,gl,cl,rfl,hW,hrw,how,hn,hn2,hn3,hn4,hgl,k1,k2,hb1⟩)
 have HW1:=Lib.hid (HW.out w1 W sp cp gl cl hb1 hrw how hgl k1 k2)
 have HB1:=Lib.hid (HB.out.trans (hb1.mono HB.out.size))
 clear hW hrw how hn hn2 hn3 hn4 hgl k1 k2 hb1
 go_wp2_with (go_at_call 239;(with_reducible refine HW1.out.mono ?_);rintro e2 w2 ⟨rfl,hb2⟩)
 go_ret2
 exact⟨rfl,HB1.out.trans (hb2.mono HB1.out.size)⟩
theorem pWalkF_is {U K:Int} {a:Option Addr} {cap gc cc:Nat}(h:FSt w c x)(hk:(x.nd 0).k=2) {p:Nat}(hp:(x.nd 0).ps=[(p:Int)])(hp0:p≠0)(hp1:p<256)(hs:(x.nd 0).sz=16)(hf:(fsec x p).take 16=entL)(hk1:(x.nd 1).k=1)(hU:0≤U∧U≤99)(hK:0≤K∧K≤127)(hc:cap≤maxLen)(h0:w.cell? ⟨gc,0,none⟩=some (.int .i64 1))(h1:1≤cc)(h2:cc≤maxLen)
  (hM:∀w,Calls Tryz.prog 167 #[.agg (stA (x.nd 0)),.agg (crA U K a cap),.int .i64 4] w fun e w'=>e=.returned (.tuple #[.bool true,.int .i64 0])∧Below w.heap.size w w') :
  Calls Tryz.prog 166 #[.iface 64 (.pointer (some ⟨c.F,0,none⟩)),.slice none 0 0,.agg (crA U K a cap),.slice (some ⟨gc,0,none⟩) 1 cc,.string ⟨#[102]⟩,.bool true] w fun e w'=>∃g cg,e=.returned (.tuple #[.slice (some ⟨g,0,none⟩) 2 cg,.int .i64 0])∧w'.cell? ⟨g,1,none⟩=some (.int .i64 2)∧2≤cg∧cg≤maxLen∧Below w.heap.size w w':=by
 have hr:=row_new w 56 (crA U K a cap)
 have l0:=hr.ld0 Tryz.underlying56 rfl (by unfold crA;kernel_rfl)
 have hal:=Go.Joins.below_alloc1 w (.cells (crA U K a cap) 56)
 have hlt:gc<w.heap.size:=World.block_lt_of_cell? w _ h0
 have HS:=Lib.hid (pstart_is (w.alloc (.cells (crA U K a cap) 56)) c.F hU hK a cap hc ((hal.cell (p:=⟨gc,0,none⟩) hlt).trans h0) h1 h2)
 have h':=h.keep hal
 have HW:Hid (∀w1 W sp cp gl cl,Below (w.alloc (.cells (crA U K a cap) 56)).heap.size (w.alloc (.cells (crA U K a cap) 56)) w1→(w.alloc (.cells (crA U K a cap) 56)).heap.size≤W→Row w1 W 366 (wkA c.F U K a cap (.slice sp 1 cp))→w1.ownsRow (w.alloc (.cells (crA U K a cap) 56)).heap.size 3 1 (.slice sp 1 cp) 1 [.int .i64 1]→(Value.slice sp 1 cp).ownBlock≠some W→w1.cell? ⟨gl,0,none⟩=some (.string ⟨#[102]⟩)→1≤cl→cl≤maxLen→Calls Tryz.prog 239 #[.pointer (some ⟨W,0,none⟩),.slice (some ⟨gl,0,none⟩) 1 cl,.bool true] w1 fun e w'=>e=.returned (.int .i64 0)∧∃g2 c2,Row w' W 366 (wkA c.F U K a cap (.slice g2 2 c2))∧w'.ownsRow (w.alloc (.cells (crA U K a cap) 56)).heap.size 3 1 (.slice g2 2 c2) 2 [.int .i64 1,.int .i64 2]∧Below (w.alloc (.cells (crA U K a cap) 56)).heap.size w1 w'):=Lib.hid (fun w1 W sp cp gl cl hb hWs hw ho hne hgl k1 k2=>
    pwalkF_is (h'.keep hb) hk hp hp0 hp1 hs hf hk1 hw ho hWs hne hM hgl k1 k2)
 have HB:=Lib.hid hal
 clear hr hal hlt h h' hk hp hs hU hK hc h0 h1 h2 hM hp0 hp1 hf hk1
 generalize crA U K a cap=A at *
 generalize hw0:w.alloc (.cells A 56)=w0 at *
 go_enter Tryz.func166,Tryz.ntmps166
 go_upto_region 4 with (go_at_call 238;(with_reducible refine HS.out.mono ?_);rintro e1 w1 ⟨W,sp,cp,gl,cl,rfl,hW,hrw,how,hn,hn2,hn3,hn4,hgl,k1,k2,hb1⟩)
 have HW1:=Lib.hid (HW.out w1 W sp cp gl cl hb1 hW hrw how hn hgl k1 k2)
 have HB1:=Lib.hid hb1
 clear hW hrw how hn hn2 hn3 hn4 hgl k1 k2 hb1
 go_upto_region 7 with (go_at_call 239;(with_reducible refine HW1.out.mono ?_);rintro e2 w2 ⟨rfl,g2,c2,hw2,ho2,hb2⟩)
 have b8:w2.cell? ⟨W,8,none⟩=some (.slice g2 2 c2):=hw2.cell 8
 have HCL:=Lib.hid (cloneI_is (l:=[1,2]) (by decide) (at_of_owned (d:=0) (f:=i64V) (xs:=[1,2]) ho2))
 have HB2:=Lib.hid (HB.out.trans ((HB1.out.trans hb2).mono HB.out.size))
 clear hw2 ho2 hb2
 go_wp2_with (go_at_call 127;(with_reducible refine HCL.out.mono ?_);rintro e3 w3 ⟨v3,rfl,ho3,hb3⟩;obtain⟨p3,c3,rfl⟩:=own_form ho3)
 obtain⟨g3,rfl,q1,q2,q3,q4⟩:=own_block ho3 (by decide)
 go_ret2
 exact⟨g3,c3,rfl,ho3.cells (g:=g3) rfl 1 (.int .i64 2) rfl,q3,q4,HB2.out.trans (hb3.mono HB2.out.size)⟩
theorem pLast_is {U K:Int} {a:Option Addr} {cap gc cc:Nat}(h:FSt w c x)(hk:(x.nd 0).k=2)(hU:0≤U∧U≤99)(hK:0≤K∧K≤127)(hc:cap≤maxLen)(h0:w.cell? ⟨gc,0,none⟩=some (.int .i64 1))(h1:1≤cc)(h2:cc≤maxLen)
  (hM:∀w,Calls Tryz.prog 167 #[.agg (stA (x.nd 0)),.agg (crA U K a cap),.int .i64 4] w fun e w'=>e=.returned (.tuple #[.bool true,.int .i64 0])∧Below w.heap.size w w') :
  Calls Tryz.prog 230 #[.iface 64 (.pointer (some ⟨c.F,0,none⟩)),.slice none 0 0,.agg (crA U K a cap),.slice (some ⟨gc,0,none⟩) 1 cc,.string ⟨#[102]⟩] w fun e w'=>∃g cg,e=.returned (.tuple #[.slice (some ⟨g,0,none⟩) 1 cg,.string ⟨#[102]⟩,.int .i64 0])∧w'.cell? ⟨g,0,none⟩=some (.int .i64 1)∧1≤cg∧cg≤maxLen∧Below w.heap.size w w':=by
 have hr:=row_new w 56 (crA U K a cap)
 have l0:=hr.ld0 Tryz.underlying56 rfl (by unfold crA;kernel_rfl)
 have hal:=Go.Joins.below_alloc1 w (.cells (crA U K a cap) 56)
 have hlt:gc<w.heap.size:=World.block_lt_of_cell? w _ h0
 have HS:=Lib.hid (pstart_is (w.alloc (.cells (crA U K a cap) 56)) c.F hU hK a cap hc ((hal.cell (p:=⟨gc,0,none⟩) hlt).trans h0) h1 h2)
 have h':=h.keep hal
 have HM:Hid (∀w1 W sp cp,Below (w.alloc (.cells (crA U K a cap) 56)).heap.size (w.alloc (.cells (crA U K a cap) 56)) w1→Row w1 W 366 (wkA c.F U K a cap (.slice sp 1 cp))→w1.ownsRow (w.alloc (.cells (crA U K a cap) 56)).heap.size 3 1 (.slice sp 1 cp) 1 [.int .i64 1]→Calls Tryz.prog 289 #[.pointer (some ⟨W,0,none⟩)] w1 fun e w'=>e=.returned (.int .i64 0)∧Below w1.heap.size w1 w'):=Lib.hid (fun w1 W sp cp hb hw ho=>by
    obtain⟨g,rfl,hgB,hg,q1,q2,q3⟩:=own1 ho
    exact pmay_is (h'.keep hb) hk hw q3 q1 q2 hM)
 have HB:=Lib.hid hal
 clear hr hal hlt h h' hk hU hK hc h0 h1 h2 hM
 generalize crA U K a cap=A at *
 generalize hw0:w.alloc (.cells A 56)=w0 at *
 go_enter Tryz.func230,Tryz.ntmps230
 go_upto_region 2 with (go_at_call 238;(with_reducible refine HS.out.mono ?_);rintro e1 w1 ⟨W,sp,cp,gl,cl,rfl,hW,hrw,how,hn,hn2,hn3,hn4,hgl,k1,k2,hb1⟩)
 have HM1:=Lib.hid (HM.out w1 W sp cp hb1 hrw how)
 have HB1:=Lib.hid (HB.out.trans (hb1.mono HB.out.size))
 have HR1:=Lib.hid (And.intro hrw how)
 have hlgl:gl<w1.heap.size:=World.block_lt_of_cell? w1 _ hgl
 have hlm:(cl:Int)≤9223372036854775807:=by unfold maxLen at k2;omega
 have HP:=Lib.hid (pwalk0_is w1 W gl cl k2)
 clear hW hrw how hn hn2 hn3 hn4 hb1 k2
 go_upto_region 12 with (first|(go_at_call 239;(with_reducible refine HP.out.mono ?_);rintro e2 w2 ⟨rfl,rfl⟩)|(go_at_call 289;(with_reducible refine HM1.out.mono ?_);rintro e3 w3 ⟨rfl,hb3⟩))
 have HB3:=Lib.hid hb3
 have HL:Hid (∀wx,Below w1.heap.size w1 wx→(wx.cell? ⟨W,8,none⟩=some (.slice sp 1 cp)∧wx.cell? ⟨gl,0,none⟩=some (.string ⟨#[102]⟩))):=Lib.hid (fun wx hb=>⟨(HR1.out.1.keep hb).cell 8,(hb.cell (p:=⟨gl,0,none⟩) hlgl).trans hgl⟩)
 have HCL:Hid (∀wx,Below w1.heap.size w1 wx→Calls Tryz.prog 127 #[.slice sp 1 cp] wx (CloneI [1] wx)):=Lib.hid (fun wx hb=>cloneI_is (l:=[1]) (by decide) (at_of_owned (d:=0) (f:=i64V) (xs:=[1]) (owns_keep HR1.out.2 hb)))
 clear hb3 hgl hlgl HM1 HP
 have yw:IntKind.i64.wrap 0=0:=by decide
 go_region_held3 (fun wx=>wx.cell? ⟨W,8,none⟩=some (.slice sp 1 cp)∧wx.cell? ⟨gl,0,none⟩=some (.string ⟨#[102]⟩)) (first|(with_reducible exact HL.out _ HB3.out)|(with_reducible exact HL.out _ HB3.out.drew)|(with_reducible exact HL.out _ HB4.out)|fail) (first|(go_at_call 127;(with_reducible refine(HCL.out _ HB3.out.drew).mono ?_);rintro e4 w4 ⟨v4,rfl,ho4,hb4⟩;obtain⟨pa,pc,rfl⟩:=own_form ho4;have HO:=Lib.hid ho4;have HB4:=Lib.hid (HB3.out.drew.trans (hb4.mono HB3.out.drew.size));clear ho4 hb4)|fail)
 all_goals
  obtain⟨g3,rfl,q1,q2,q3,q4⟩:=own_block HO.out (by decide)
  go_wp2_with fail
  go_ret3
  exact⟨g3,pc,rfl,HO.out.cells (g:=g3) rfl 0 (.int .i64 1) rfl,q3,q4,HB1.out.trans (HB4.out.mono HB1.out.size)⟩
end
structure FSy (w:World) (B F D L a:Nat):Prop where
 o:FSw w B F D L a
 x:∃p c b,w.heap[F]?=some (.cells (fsA (.pointer (some ⟨D,0,none⟩)) (.pointer (some ⟨L,0,none⟩)) (.slice p 32 c) a b) 137 (0,0))∧ON B w (.slice p 32 c) 32∧w.heap[b]?=some (.map #[] 0)∧L<a∧a<b∧b<F∧∀N,(Value.slice p 32 c).ownBlock=some N→N<a
theorem FSy.updB {S:Nat→Prop} {w w':World} {B F D L a:Nat}(h:FSy w B F D L a)(hu:Upd S w w')(hS:∀k,S k→k<B):FSy w' B F D L a:=by
 have lt:∀ {k o},w.heap[k]?=some o→k<w.heap.size:=fun h=>(Array.getElem?_eq_some_iff.1 h).1
 obtain⟨p,c,b,h1,h2,h3,h4,h5,h6,h7⟩:=h.x
 have n1:=h.o.f0
 have n2:=h.o.a0
 exact⟨h.o.updB hu hS,p,c,b,(hu.block F (lt h1) (fun q=>by have:=hS _ q;omega)).trans h1,hu.owns h2 (fun j e q=>by have:=hS _ q;have:=(h2.lt j e).1;omega),(hu.block b (lt h3) (fun q=>by have:=hS _ q;omega)).trans h3,h4,h5,h6,h7⟩
theorem FSy.keep {w w':World} {B F D L a:Nat}(h:FSy w B F D L a)(hb:Below w.heap.size w w'):FSy w' B F D L a:=h.updB (S:=fun _=>False) (Upd.below hb) (fun _ e=>e.elim)
attribute [local go_sem ↓] ld_for ld_tre st_for bd_fs
section
variable {w w':World} {D sb nb m:Nat} {wv:Value} {s f:List Int}
theorem mount2_is (h:Dk w D sb nb wv m 256 s f)(hf:Fmt f):Calls Tryz.prog 22 #[.pointer (some ⟨D,0,none⟩)] w fun e w'=>∃F L a,e=.returned (.tuple #[.pointer (some ⟨F,0,none⟩),.int .i64 0])∧FSy w' w.heap.size F D L a∧Below w.heap.size w w':=by
 have hmm:=@run_makeMap Tryz.prog
 have HD:=Lib.hid h
 have HF:=Lib.hid hf
 have HRD:=Lib.hid (read_is h (k:=0) (by decide))
 rw[hf.s0] at HRD
 have hz:Tryz.zeroCells115=forA (fun _=>0):=by kernel_rfl
 clear h hf
 go_enter Tryz.func22,Tryz.ntmps22
 go_upto_region 2 with (go_at_call 47;refine HRD.out.mono ?_;rintro e1 w1 ⟨v1,rfl,ho1,hb1⟩)
 have HD1:=Lib.hid (HD.out.keep hb1)
 have HB1:=Lib.hid hb1
 have HA1:=Lib.hid (at_of_owned (f:=Value.int .u8) (d:=0) (xs:=markL) ho1)
 have HSZ:=Lib.hid (size_is HD1.out)
 have HMK:=Lib.hid (mark_is w1)
 clear ho1 hb1 HRD HD
 go_upto_region 4 with (first|(go_at_call 40;refine HSZ.out.mono ?_;rintro e2 w2 ⟨rfl,rfl⟩)|(go_at_call 45;refine HMK.out.mono ?_;rintro e2 w2 ⟨v2,rfl,ho2,hb2⟩;have HD2:=Lib.hid (HD1.out.keep hb2);have HB2:=Lib.hid (HB1.out.trans (hb2.mono HB1.out.size));have HEQ:=Lib.hid (equalB_is (by decide) (HA1.out.keep hb2) ho2.at);clear ho2 hb2)|(go_at_call 10;refine HEQ.out.mono ?_;rintro e3 w3 ⟨rfl,hb3⟩;have HD3:=Lib.hid (HD2.out.keep hb3);have HB3:=Lib.hid (HB2.out.trans (hb3.mono HB2.out.size));clear hb3))
 clear HD1 HD2 HB1 HB2 HA1 HSZ HMK HEQ
 have HJ:=Lib.hid (jopen_is HD3.out HF.out.s5)
 go_upto_region 5 with (go_at_call 48;refine HJ.out.mono ?_;rintro e4 w4 ⟨L,rfl,hL,hlog,hb4⟩)
 have HD4:=Lib.hid (HD3.out.keep hb4)
 have HB4:=Lib.hid (HB3.out.trans (hb4.mono HB3.out.size))
 have HL4:Hid (w.heap.size≤L):=Lib.hid (Nat.le_trans HB3.out.size hL)
 have HLL:Hid (Row w4 L 230 _):=Lib.hid hlog
 clear HD3 HB3 HJ hL hlog hb4
 have HCL:=Lib.hid (cload_is HD4.out gF_fl HF.out.fo)
 have HSA:=Lib.hid (forA_size gF)
 have HZS:=Lib.hid (forA_size (fun _=>0))
 have HO1:=Lib.hid (forA_one gF)
 have hbd:=bd_run
 obtain⟨Z,hZ⟩:∃Z,Z=forA (fun _=>0):=⟨_,rfl⟩
 rw[← hZ] at hz HZS
 obtain⟨A,hA⟩:∃A,A=forA gF:=⟨_,rfl⟩
 rw[← hA] at HCL HSA HO1 hbd
 have HAE:=Lib.hid hA
 clear hA hZ
 go_upto_region 8 with (go_at_call 49;refine HCL.out.mono ?_;rintro e5 w5 ⟨rfl,hb5⟩;have st5:=st0_new w5 (T:=115) (c:=Z) (cs:=A) (by rw[HSA.out,HZS.out]) (by rw[HSA.out];kernel_rfl) HO1.out)
 have HR5:=Lib.hid (row_new w5 115 A)
 have hal:=(hb5.trans ((Go.Joins.below_alloc1 w5 (.cells A 115)).mono hb5.size))
 have HD5:=Lib.hid (HD4.out.keep hal)
 have HB5:=Lib.hid (HB4.out.trans (hal.mono HB4.out.size))
 have HL5:=Lib.hid (HLL.out.keep hal)
 clear HD4 HB4 HLL HCL hal hb5 st5
 generalize w5.alloc (.cells A 115)=w6 at *
 have HZ6:Hid (w.heap.size≤w6.heap.size):=Lib.hid HB5.out.size
 have l6:(ldR 113 (.pointer (some ⟨w5.heap.size,0,none⟩))).run Tryz.prog w6=.ok (.agg (treA gF)) w6:=by
  have:=HR5.out.ld (o:=0) (n:=48) (by rw[HSA.out];decide) Tryz.underlying113 rfl (by kernel_rfl)
  have e:=forA_tre gF (k:=0) (by decide)
  rw[Nat.zero_mul] at e
  rw[HAE.out,e] at this
  simpa using this
 have HCT:=Lib.hid (ctree_is HD5.out HF.out.nd (G:=gF) (fun i hi=>by unfold gF;rw[if_pos hi]))
 generalize treA gF=T0 at *
 go_upto_region 11 with (go_at_call 50;refine HCT.out.mono ?_;rintro e7 w7 ⟨v7,rfl,ho7,hb7⟩)
 have HD7:=Lib.hid (HD5.out.keep hb7)
 have HB7:=Lib.hid (HB5.out.trans (hb7.mono HB5.out.size))
 have HL7:=Lib.hid (HL5.out.keep hb7)
 have HR7:=Lib.hid (HR5.out.keep hb7)
 have HN7:=Lib.hid ho7
 clear HD5 HB5 HL5 HR5 HCT l6 ho7 hb7
 have HRQ:=Lib.hid (read_is HD7.out (k:=4) (by decide))
 rw[HF.out.s4] at HRQ
 go_upto_region 14 with (go_at_call 47;refine HRQ.out.mono ?_;rintro e8 w8 ⟨v8,rfl,ho8,hb8⟩)
 have HB8:=Lib.hid (HB7.out.trans (hb8.mono HB7.out.size))
 have HL8:=Lib.hid (HL7.out.keep hb8)
 have HR8:=Lib.hid (HR7.out.keep hb8)
 have HN8:=Lib.hid (HN7.out.keep hb8)
 have HQU:=Lib.hid (qunpack_is (at_of_owned (f:=Value.int .u8) (d:=0) (xs:=zeros 64) ho8))
 clear HD7 HB7 HL7 HR7 HN7 HRQ ho8 hb8
 go_upto_region 15 with (go_at_call 51;refine HQU.out.mono ?_;rintro e9 w9 ⟨rfl,hb9⟩)
 have HB9:=Lib.hid (HB8.out.trans (hb9.mono HB8.out.size))
 have HL9:=Lib.hid (HL8.out.keep hb9)
 have hr9:=HR8.out.keep hb9
 have HN9:=Lib.hid (HN8.out.keep hb9)
 have l9:=hr9.ld0 Tryz.underlying115 rfl (by rw[HSA.out];kernel_rfl)
 clear HB8 HL8 HR8 HN8 HQU hb9 hr9
 obtain⟨p7,c7,rfl⟩:=own_form HN9.out
 go_upto_region 18 with fail
 have hal:Below w9.heap.size w9 (((w9.alloc (.map #[] 0)).alloc (.map #[] 0)).alloc (.cells (fsA (.pointer (some ⟨D,0,none⟩)) (.pointer (some ⟨L,0,none⟩)) (.slice p7 32 c7) w9.heap.size (w9.heap.size+1)) 137)):=(((Below.refl _ _).alloc (Nat.le_refl _) _).alloc (by simp) _).alloc (by simp;omega) _
 have HFS:Hid (FSy (((w9.alloc (.map #[] 0)).alloc (.map #[] 0)).alloc (.cells (fsA (.pointer (some ⟨D,0,none⟩)) (.pointer (some ⟨L,0,none⟩)) (.slice p7 32 c7) w9.heap.size (w9.heap.size+1)) 137)) w.heap.size (w9.heap.size+2) D L w9.heap.size):=Lib.hid (by
    have h0:=HB9.out.size
    have hF:(((w9.alloc (.map #[] 0)).alloc (.map #[] 0)).alloc (.cells (fsA (.pointer (some ⟨D,0,none⟩)) (.pointer (some ⟨L,0,none⟩)) (.slice p7 32 c7) w9.heap.size (w9.heap.size+1)) 137)).heap[w9.heap.size+2]?=some (.cells (fsA (.pointer (some ⟨D,0,none⟩)) (.pointer (some ⟨L,0,none⟩)) (.slice p7 32 c7) w9.heap.size (w9.heap.size+1)) 137 (0,0)):=by
      have:=heap_alloc_new ((w9.alloc (.map #[] 0)).alloc (.map #[] 0)) (.cells (fsA (.pointer (some ⟨D,0,none⟩)) (.pointer (some ⟨L,0,none⟩)) (.slice p7 32 c7) w9.heap.size (w9.heap.size+1)) 137)
      simpa using this
    refine⟨?_,p7,c7,w9.heap.size+1,hF,(owns_keep (owns_base HN9.out HZ6.out) hal:ON _ _ _ _),?_,Row.lt (c:=_) HL9.out,by omega,by omega,fun N e=>(HN9.out.lt N e).2⟩
    rotate_left
    · rw[Below.heap_alloc _ _ _ (by simp)]
      have:=heap_alloc_new (w9.alloc (.map #[] 0)) (.map #[] 0)
      simpa using this
    refine⟨⟨p7,32,c7,w9.heap.size+1,?_⟩,?_,?_,by omega,HL4.out,h0⟩
    · have:=heap_alloc_new ((w9.alloc (.map #[] 0)).alloc (.map #[] 0)) (.cells (fsA (.pointer (some ⟨D,0,none⟩)) (.pointer (some ⟨L,0,none⟩)) (.slice p7 32 c7) w9.heap.size (w9.heap.size+1)) 137)
      simpa using this
    · exact HL9.out.keep hal
    · rw[Below.heap_alloc _ _ _ (by simp;omega),Below.heap_alloc _ _ _ (by simp)]
      exact heap_alloc_new _ _)
 have HB10:=Lib.hid (HB9.out.trans (hal.mono HB9.out.size))
 have HN10:=Lib.hid (HN9.out.keep hal)
 clear hal HB9 HL9 HN9 l9
 generalize ((w9.alloc (.map #[] 0)).alloc (.map #[] 0)).alloc (.cells (fsA (.pointer (some ⟨D,0,none⟩)) (.pointer (some ⟨L,0,none⟩)) (.slice p7 32 c7) w9.heap.size (w9.heap.size+1)) 137)=w10 at *
 have HLO:=Lib.hid (lost_is HN10.out)
 go_upto_region 19 with (go_at_call 52;refine HLO.out.mono ?_;rintro e11 w11 ⟨rfl,hb11⟩)
 have HB11:=Lib.hid (HB10.out.trans (hb11.mono HB10.out.size))
 have HFS11:=Lib.hid (HFS.out.keep hb11)
 clear hb11 HLO HB10 HN10 HFS
 refine wp_loop_rounds 1 ?_
 rw[rounds_succ]
 go_wp2_with fail
 go_ret2
 exact⟨_,_,_,rfl,HFS11.out,HB11.out⟩
end
end Go.Proofs.YtfkepfncgdlgoaaGreatDoor
