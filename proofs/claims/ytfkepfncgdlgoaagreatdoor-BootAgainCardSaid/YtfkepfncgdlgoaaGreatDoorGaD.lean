/- The walks of package dir at two entries: sorting, Clone. The walks of package dir at two entries: lay. Printed by gen_gac.py. The walks of package dir: Lay at two entries, Find and Put at "g". Printed by gen_gad.py. -/
import Derived.Test.YtfkepfncgdlgoaaGreatDoorGaA
import Derived.Deep.RegionHeld3
import Derived.BigQuiet
import Derived.BigRegion
namespace Go.Proofs.YtfkepfncgdlgoaaGreatDoor
open Go.RowKit Go.Maps
set_option linter.unusedVariables false
set_option linter.unusedSimpArgs false
set_option maxRecDepth 100000
set_option maxHeartbeats 1000000
theorem layC_is (w:World):Calls Tryz.prog 335 #[.agg #[.string ⟨#[103]⟩,.int .i64 3],.agg #[.string ⟨#[102]⟩,.int .i64 2]] w fun e w'=>e=.returned (.int .i64 1)∧Below w.heap.size w w':=by
 have HC:=Lib.hid (fun w=>cmpG_is w)
 have HB:=Lib.hid (((Below.refl w.heap.size w).alloc (Nat.le_refl _) (.cells #[.string ⟨#[103]⟩,.int .i64 3] 388)).alloc (by simp) (.cells #[.string ⟨#[102]⟩,.int .i64 2] 388))
 go_enter Tryz.func335,Tryz.ntmps335
 go_wp2_with (go_at_call 267;(with_reducible refine(HC.out _).mono ?_);rintro e1 w1 ⟨rfl,rfl⟩)
 go_ret
 exact⟨rfl,HB.out⟩
theorem ld_En (v:Value):Instr.loadAt 388 v=ldR 388 v:=rfl
theorem E2.ld0 {w:World} {g cap:Nat}(h:E2 w g cap):(ldR 388 (.pointer (some ⟨g,0,none⟩))).run Tryz.prog w=.ok (.agg #[.string ⟨#[102]⟩,.int .i64 2]) w:=by
 have hr:w.rangeAt g 0 [.string ⟨#[102]⟩,.int .i64 2]:=fun j v hv=>by
  rcases j with _|_|j
  ·rw[← hv];exact h.c0
  ·rw[← hv];exact h.c1
  ·simp at hv
 exact run_loadAt_mid (P:=Tryz.prog) w g 0 388 _ _ hr Tryz.underlying388 rfl (by kernel_rfl)
theorem E2.ld1 {w:World} {g cap:Nat}(h:E2 w g cap):(ldR 388 (.pointer (some ⟨g,2,none⟩))).run Tryz.prog w=.ok (.agg #[.string ⟨#[103]⟩,.int .i64 3]) w:=by
 have hr:w.rangeAt g 2 [.string ⟨#[103]⟩,.int .i64 3]:=fun j v hv=>by
  rcases j with _|_|j
  ·rw[← hv];exact h.c2
  ·rw[← hv];exact h.c3
  ·simp at hv
 exact run_loadAt_mid (P:=Tryz.prog) w g 2 388 _ _ hr Tryz.underlying388 rfl (by kernel_rfl)
section
attribute [local go_sem ↓] ld_En
theorem isort2_is {w:World} {g cap:Nat}(h:E2 w g cap):Calls Tryz.prog 375 #[.slice (some ⟨g,0,none⟩) 2 cap,.int .i64 0,.int .i64 2,.func (Fn.func 335) #[] #[]] w fun e w'=>e=.returned (.tuple #[])∧Below w.heap.size w w':=by
 have h2:=h.l1
 have hcm:(cap:Int)≤9223372036854775807:=by have:=h.l2;unfold maxLen at this;omega
 have HC:=Lib.hid (fun w=>layC_is w)
 have HS:Hid (∀wz,Below w.heap.size w wz→(ldR 388 (.pointer (some ⟨g,0,none⟩))).run Tryz.prog wz=.ok (.agg #[.string ⟨#[102]⟩,.int .i64 2]) wz∧(ldR 388 (.pointer (some ⟨g,2,none⟩))).run Tryz.prog wz=.ok (.agg #[.string ⟨#[103]⟩,.int .i64 3]) wz):=Lib.hid (fun wz hb=>⟨(h.keep hb).ld0,(h.keep hb).ld1⟩)
 clear h
 have iz:IntKind.i64.wrap 0=0:=by decide
 go_enter Tryz.func375,Tryz.ntmps375
 go_wp2_with fail
 refine wp_loop_rounds 2 ?_
 rw[rounds_succ]
 go_wp2_with fail
 refine wp_loop_rounds 1 ?_
 rw[rounds_succ]
 go_wp2_with fail
 go_region_held3 (fun wz=>(ldR 388 (.pointer (some ⟨g,0,none⟩))).run Tryz.prog wz=.ok (.agg #[.string ⟨#[102]⟩,.int .i64 2]) wz∧(ldR 388 (.pointer (some ⟨g,2,none⟩))).run Tryz.prog wz=.ok (.agg #[.string ⟨#[103]⟩,.int .i64 3]) wz) (first|(with_reducible exact HS.out _ (Below.refl _ _))|(with_reducible exact HS.out _ (Below.refl _ _).drew)|(with_reducible exact HS3.out)|fail) (first|(go_at_call 335;(with_reducible refine(HC.out _).mono ?_);rintro e2 w2 ⟨rfl,hb2⟩;have HB2:=Lib.hid ((Below.refl w.heap.size w).drew.trans hb2);have HS3:=Lib.hid (HS.out w2 HB2.out);clear hb2)|fail)
 all_goals
  go_wp2_with fail
  rw[rounds_succ]
  go_wp2_with fail
  (try simp only[Exit.inBlock,Exit.then]);first|(refine bodyPost_ret (results_none rfl _ _ _) rfl ?_)|(refine bodyPost_end (results_none rfl _ _ _) rfl ?_)
  first|exact⟨rfl,HB2.out⟩|exact⟨rfl,HB2.out.drew⟩
theorem pdq2_is {w:World} {g cap:Nat}(h:E2 w g cap) (k:Value):Calls Tryz.prog 352 #[.slice (some ⟨g,0,none⟩) 2 cap,.int .i64 0,.int .i64 2,k,.func (Fn.func 335) #[] #[]] w fun e w'=>e=.returned (.tuple #[])∧Below w.heap.size w w':=by
 have HI:=Lib.hid (isort2_is h)
 clear h
 go_enter Tryz.func352,Tryz.ntmps352
 go_wp2_with fail
 refine wp_loop_rounds 1 ?_
 rw[rounds_succ]
 go_wp2_with (go_at_call 375;refine HI.out.mono ?_;rintro e1 w1 ⟨rfl,hb1⟩)
 (try simp only[Exit.inBlock,Exit.then]);first|(refine bodyPost_ret (results_none rfl _ _ _) rfl ?_)|(refine bodyPost_end (results_none rfl _ _ _) rfl ?_)
 exact⟨rfl,hb1⟩
theorem len64_2 (w:World):Calls Tryz.prog 282 #[.int .u64 2] w fun e w'=>e=.returned (.int .i64 2)∧w=w':=by
 go_enter Tryz.func282,Tryz.ntmps282
 go_wp2_with fail
 go_ret
 exact⟨by kernel_rfl,rfl⟩
theorem len_2 (w:World):Calls Tryz.prog 214 #[.int .u64 2] w fun e w'=>e=.returned (.int .i64 2)∧w=w':=by
 have HI:=Lib.hid (len64_2 w)
 go_enter Tryz.func214,Tryz.ntmps214
 go_wp2_with (go_at_call 282;refine HI.out.mono ?_;rintro e1 w1 ⟨rfl,rfl⟩)
 go_ret
 exact⟨rfl,rfl⟩
theorem sort2_is {w:World} {g cap:Nat}(h:E2 w g cap):Calls Tryz.prog 334 #[.slice (some ⟨g,0,none⟩) 2 cap,.func (Fn.func 335) #[] #[]] w fun e w'=>e=.returned (.tuple #[])∧Below w.heap.size w w':=by
 have HP:=Lib.hid (fun k=>pdq2_is h k)
 have HI:=Lib.hid (len_2 w)
 clear h
 go_enter Tryz.func334,Tryz.ntmps334
 go_wp2_with (first|(go_at_call 214;(with_reducible refine HI.out.mono ?_);rintro e1 w1 ⟨rfl,rfl⟩)|(go_at_call 352;(with_reducible refine(HP.out _).mono ?_);rintro e1 w1 ⟨rfl,hb1⟩))
 (try simp only[Exit.inBlock,Exit.then]);first|(refine bodyPost_ret (results_none rfl _ _ _) rfl ?_)|(refine bodyPost_end (results_none rfl _ _ _) rfl ?_)
 exact⟨rfl,hb1⟩
end
def dentD:List Value:=[.string ⟨#[102]⟩,.int .i64 2,.string ⟨#[103]⟩,.int .i64 3]
theorem E2.of_own {w:World} {B:Nat} {v:Value}(h:w.ownsRow B 388 2 v 2 dentD):∃g cap,v=.slice (some ⟨g,0,none⟩) 2 cap∧B≤g∧E2 w g cap:=by
 rcases h.2 with ⟨_,h0⟩|⟨g,cap,cur,rfl,hB,hg,h1,h2,h3,h4⟩
 ·omega
 ·have hr:Row w g 388 cur:=hg
  have hc:∀j,j<4→w.cell? ⟨g,j,none⟩=dentD[j]?:=fun j hj=>by
   rw[hr.cell,← h4,List.getElem?_take,if_pos (by omega),Array.getElem?_toList]
  exact⟨g,cap,rfl,hB,hc 0 (by decide),hc 1 (by decide),hc 2 (by decide),hc 3 (by decide),h1,h2⟩
theorem cloneE2_is {w:World} {g cap:Nat}(h:E2 w g cap):Calls Tryz.prog 333 #[.slice (some ⟨g,0,none⟩) 2 cap] w fun e w'=>∃g' cap',e=.returned (.slice (some ⟨g',0,none⟩) 2 cap')∧w.heap.size≤g'∧E2 w' g' cap'∧Below w.heap.size w w':=by
 have q22:∀(w:World) (a:Option Addr) (n c n' c':Nat),(binOp .eql 31 (.slice a n c) (.slice none n' c')).run Tryz.prog w=.ok (.bool a.isNone) w:=fun w a n c n' c'=>Lib.run_eql_slice_nil w _ _ a n c n' c' Tryz.underlying31
 have hcl:∀j u,dentD[j]?=some u→w.cell? ((⟨g,0,none⟩:Addr).add j)=some u:=fun j u hj=>by
  rw[Addr.add_lit,Nat.zero_add]
  rcases j with _|_|_|_|j
  ·rw[← hj];exact h.c0
  ·rw[← hj];exact h.c1
  ·rw[← hj];exact h.c2
  ·rw[← hj];exact h.c3
  ·simp[dentD] at hj
 have HC:=Lib.hid hcl
 have hcm:(cap:Int)≤9223372036854775807:=by have:=h.l2;unfold maxLen at this;omega
 have HN:=Lib.hid (fun (w':World) (v:Value) (q:w'.ownsRow w.heap.size 388 2 v 2 dentD)=>E2.of_own q)
 have ho:∀u∈dentD,u.oneCell'=true:=by intro u hu;simp[dentD] at hu;rcases hu with rfl|rfl|rfl|rfl <;> rfl
 have HO:=Lib.hid ho
 have l1:=h.l1
 clear hcl h ho
 obtain⟨i0,hi,hz0,hz1,hz2⟩:=info_parts infoE
 go_enter Tryz.func333,Tryz.ntmps333
 go_wp2_with (at_builtin;go_loud (refine wpList_append_fresh _ rfl (.tmp 5) (.tmp 6) 31 rfl w.heap.size 388 i0 _ 2 24 Tryz.underlying31 hi hz0 hz1 hz2 rfl (by decide) _ _ _ rfl (World.ownsRow_made w #[] 0 (Nat.le_refl _) (Nat.zero_le _) rfl) ⟨g,0,none⟩ 2 _ dentD rfl (by decide) (fun j u h=>by have:=HC.out j u h;rw[World.cell?_alloc_lt];exact this;exact World.block_lt_of_cell? w _ this) HO.out (by unfold maxLen;omega) (by omega) (by simp) ?_))
 intro v' w1 hown hgrow hfresh
 have hb1:Below w.heap.size w w1:=((Below.refl _ _).alloc (Nat.le_refl _) _).grown hgrow (by simp) (fun g hg=>by simp[Value.ownBlock] at hg;omega)
 clear hgrow hfresh
 obtain⟨g',cap',rfl,e1,e2⟩:=HN.out w1 v' (by simpa using hown)
 have HR:=Lib.hid (And.intro e1 (And.intro e2 hb1))
 clear hown e1 e2 hb1
 go_wp2_with fail
 go_ret
 exact⟨g',cap',rfl,HR.out⟩
theorem run_copySo {w:World} {g o dL dC:Nat} {cur news:List Int} {s:ByteArray}(hg:BK w g cur)(hs:Lib.byteCells s.data.toList=news.map u8V)(hz:s.size=news.length)(hle:news.length≤dL)(hl:o+dL≤cur.length) :
  (copyS #[.slice (some ⟨g,o,none⟩) dL dC,.string s]).run Tryz.prog w=.ok (.int .i64 news.length) (w.setRow g ((splice cur o news).map u8V).toArray):=by
 have h:=Lib.run_copy_row_string (P:=Tryz.prog) w 22 9 3 5 g o dL dC s (cur.map u8V).toArray 5 Tryz.underlying22 (by kernel_rfl) hg (by omega) (by simp;omega)
 rw[← copyS_eq,h,hs,hz]
 simp[goInt,splice,List.map_drop,List.map_take]
theorem splice_len (l:List Int) (o:Nat) (z:List Int)(h:o+z.length≤l.length):(splice l o z).length=l.length:=by
 simp[splice]
 omega
section
attribute [local go_sem ↓] mkB_eq copyS_eq
theorem layM_is {w:World} {pl p2 p3 p4 gb g cap:Nat} {bl:List Int}(hl:w.cell? ⟨pl,0,none⟩=some (.slice (some ⟨g,0,none⟩) 2 cap))(h2:w.cell? ⟨p2,0,none⟩=some (.func (Fn.func 336) #[] #[.pointer (some ⟨pl,0,none⟩),.pointer (some ⟨p2,0,none⟩),.pointer (some ⟨p3,0,none⟩),.pointer (some ⟨p4,0,none⟩)]))(h3:w.cell? ⟨p3,0,none⟩=some (.slice (some ⟨gb,0,none⟩) 32 32))(h4:Row w p4 3 #[.int .i64 0])(hb:BK w gb bl)(hbl:bl.length=32)(he:E2 w g cap)
  (n1:pl≠gb∧p2≠gb∧p3≠gb∧p4≠gb∧g≠gb) (n2:pl≠p4∧p2≠p4∧p3≠p4∧g≠p4) :
  Calls Tryz.prog 336 #[.int .i64 1,.pointer (some ⟨pl,0,none⟩),.pointer (some ⟨p2,0,none⟩),.pointer (some ⟨p3,0,none⟩),.pointer (some ⟨p4,0,none⟩)] w fun e w'=>e=.returned (.tuple #[])∧(∃bl',bl'.length=32∧BK w' gb bl')∧Row w' p4 3 #[.int .i64 1]∧Upd (fun j=>j=gb∨j=p4) w w':=by
 have HL1:Hid (Calls Tryz.prog 336 #[.int .i64 3,.pointer (some ⟨pl,0,none⟩),.pointer (some ⟨p2,0,none⟩),.pointer (some ⟨p3,0,none⟩),.pointer (some ⟨p4,0,none⟩)] w fun e w'=>e=.returned (.tuple #[])∧w=w'):=Lib.hid (layE_is hl (k:=3) (by decide))
 have HI:=Lib.hid h2
 have q0:=hl
 have HN:=Lib.hid (And.intro n1 n2)
 have HX:=Lib.hid (And.intro hl (And.intro h2 (And.intro h3 (And.intro h4 (And.intro hb (And.intro hbl he))))))
 have hcm:(cap:Int)≤9223372036854775807:=by have:=he.l2;unfold maxLen at this;omega
 clear hl h3 h4 hb hbl he n1 n2
 go_enter Tryz.func336,Tryz.ntmps336
 go_upto_region 2 with (go_at_call 336;(with_reducible refine HL1.out.mono ?_);rintro e1 w1 ⟨rfl,rfl⟩)
 obtain⟨hl,h2,h3,h4,hb,hbl,he⟩:=HX.out
 have HU0:Hid (Upd (fun j=>j=gb∨j=p4) w w):=Lib.hid (Upd.refl _ _)
 have q1:=h4.cell 0
 have c0:=he.c0
 have c1:=he.c1
 have l2:=he.l1
 have hlt:∀ {b o v},w.cell? ⟨b,o,none⟩=some v→b<w.heap.size:=fun h=>World.block_lt_of_cell? w _ h
 have hcp:=run_copySo (o:=16) (dL:=16) (dC:=16) (w:=w.drew) (s:=⟨#[102]⟩) (news:=[102]) hb (by rfl) (by rfl) (by decide) (by rw[hbl];decide)
 have hcp:(copyS #[.slice (some ⟨gb,16,none⟩) 16 16,.string ⟨#[102]⟩]).run Tryz.prog w.drew=.ok (.int .i64 1) (w.drew.setRow gb ((splice bl 16 [102]).map u8V).toArray):=hcp
 have hu1:Upd (fun j=>j=gb) w (w.drew.setRow gb ((splice bl 16 [102]).map u8V).toArray):=(Upd.drew w).trans (Upd.setRow _ _ rfl)
 have hb1:BK (w.drew.setRow gb ((splice bl 16 [102]).map u8V).toArray) gb (splice bl 16 [102]):=BK.setRow (show BK w.drew gb bl from hb) _
 have hl1:(splice bl 16 [102]).length=32:=by rw[splice_len _ _ _ (by rw[hbl];decide),hbl]
 generalize splice bl 16 [102]=bm at *
 have HK:=Lib.hid (And.intro hu1 (And.intro hb1 hl1))
 have HH:=Lib.hid (And.intro hl (And.intro h2 (And.intro h3 (And.intro h4 he))))
 have HLT:Hid (∀ {b o v},w.cell? ⟨b,o,none⟩=some v→b<w.heap.size):=Lib.hid hlt
 clear hb he h4 hu1 hb1 hl1 hbl hlt
 go_region
 generalize w.drew.setRow gb (bm.map u8V).toArray=wb at *
 obtain⟨⟨n11,n12,n13,n14,n15⟩,n21,n22,n23,n24⟩:=HN.out
 have hl2:=(HK.out.1.cell (o:=0) (HLT.out HH.out.1) n11).trans HH.out.1
 have h22:=(HK.out.1.cell (o:=0) (HLT.out HH.out.2.1) n12).trans HH.out.2.1
 have h23:=(HK.out.1.cell (o:=0) (HLT.out HH.out.2.2.1) n13).trans HH.out.2.2.1
 have h24:=HH.out.2.2.2.1.upd HK.out.1 n14
 have q2:=h24.cell 0
 have z2:=h24.fz 0
 have he2:=HH.out.2.2.2.2.upd HK.out.1 n15
 have d0:=he2.c0
 have d1:=he2.c1
 have k14:=HK.out.2.1.cell (i:=30) (by rw[HK.out.2.2];decide)
 have f14:wb.frozen? ⟨gb,30,none⟩=false:=by have hb2:=HK.out.2.1;unfold BK at hb2;simp[World.frozen?,hb2]
 have HE2:=Lib.hid (And.intro hl2 (And.intro h22 (And.intro h24 he2)))
 clear hl h2 h3 q1 c0 c1 hcp h24 he2
 go_upto_region 3 with fail
 go_region
 have e3:wb.setCell ⟨gb,30,none⟩ (.int .u8 2)=wb.setRow gb ((bm.set 30 2).map u8V).toArray:=by
  rw[HK.out.2.1.setCell,List.map_set]
 rw[e3]
 clear e3
 have hu3:Upd (fun j=>j=gb) wb (wb.setRow gb ((bm.set 30 2).map u8V).toArray).drew:=(Upd.setRow (S:=fun j=>j=gb) wb _ rfl).trans (Upd.drew _)
 have hb3:BK (wb.setRow gb ((bm.set 30 2).map u8V).toArray).drew gb (bm.set 30 2):=HK.out.2.1.setRow (bm.set 30 2)
 have h34:=HE2.out.2.2.1.upd hu3 n14
 have hl3:=(hu3.cell (o:=0) (World.block_lt_of_cell? wb _ HE2.out.1) n11).trans HE2.out.1
 have h32:=(hu3.cell (o:=0) (World.block_lt_of_cell? wb _ HE2.out.2.1) n12).trans HE2.out.2.1
 have hl4:(bm.set 30 2).length=32:=by rw[List.length_set];exact HK.out.2.2
 have HK3:=Lib.hid (And.intro (HK.out.1.trans hu3) (And.intro hb3 hl4))
 clear hu3 hb3 k14 f14 hl2 h22 h23 q2 z2 d0 d1 hl4
 generalize (wb.setRow gb ((bm.set 30 2).map u8V).toArray).drew=w3 at *
 generalize bm.set 30 2=bn at *
 have q3:=h34.cell 0
 have z3:=h34.fz 0
 have hu4:Upd (fun j=>j=p4) w3 (w3.setCell ⟨p4,0,none⟩ (.int .i64 1)):=Upd.set w3 _ rfl
 have hl4:=(hu4.cell (o:=0) (World.block_lt_of_cell? w3 _ hl3) n21).trans hl3
 have h42:=(hu4.cell (o:=0) (World.block_lt_of_cell? w3 _ h32) n22).trans h32
 have hr4:Row (w3.setCell ⟨p4,0,none⟩ (.int .i64 1)) p4 3 #[.int .i64 1]:=by rw[h34.setCell];exact h34.setRow _
 have HK4:Hid (Upd (fun j=>j=gb∨j=p4) w (w3.setCell ⟨p4,0,none⟩ (.int .i64 1))∧BK (w3.setCell ⟨p4,0,none⟩ (.int .i64 1)) gb bn∧bn.length=32∧Row (w3.setCell ⟨p4,0,none⟩ (.int .i64 1)) p4 3 #[.int .i64 1]):=Lib.hid ⟨HU0.out.trans ((HK3.out.1.mono (fun i _ e=>.inl e)).trans (hu4.mono (fun i _ e=>.inr e))),by
    have:=(show Row w3 gb 5 (bn.map u8V).toArray from HK3.out.2.1).upd hu4 (fun e=>n14 e.symm)
    exact this,HK3.out.2.2,hr4⟩
 have HL2:Hid (Calls Tryz.prog 336 #[.int .i64 4,.pointer (some ⟨pl,0,none⟩),.pointer (some ⟨p2,0,none⟩),.pointer (some ⟨p3,0,none⟩),.pointer (some ⟨p4,0,none⟩)] (w3.setCell ⟨p4,0,none⟩ (.int .i64 1)) fun e w'=>e=.returned (.tuple #[])∧w3.setCell ⟨p4,0,none⟩ (.int .i64 1)=w'):=Lib.hid (layE_is hl4 (k:=4) (by decide))
 clear hu4 hl4 hr4
 go_wp2_with (go_at_call 336;(with_reducible refine HL2.out.mono ?_);rintro e1 w4 ⟨rfl,rfl⟩)
 (try simp only[Exit.inBlock,Exit.then]);first|(refine bodyPost_ret (results_none rfl _ _ _) rfl ?_)|(refine bodyPost_end (results_none rfl _ _ _) rfl ?_)
 exact⟨rfl,⟨bn,HK4.out.2.2.1,HK4.out.2.1⟩,HK4.out.2.2.2,HK4.out.1⟩
theorem layN_is {w:World} {pl p2 p3 p4 gb g cap:Nat} {bl:List Int}(hl:w.cell? ⟨pl,0,none⟩=some (.slice (some ⟨g,0,none⟩) 2 cap))(h2:w.cell? ⟨p2,0,none⟩=some (.func (Fn.func 336) #[] #[.pointer (some ⟨pl,0,none⟩),.pointer (some ⟨p2,0,none⟩),.pointer (some ⟨p3,0,none⟩),.pointer (some ⟨p4,0,none⟩)]))(h3:w.cell? ⟨p3,0,none⟩=some (.slice (some ⟨gb,0,none⟩) 32 32))(h4:Row w p4 3 #[.int .i64 0])(hb:BK w gb bl)(hbl:bl.length=32)(he:E2 w g cap)
  (n1:pl≠gb∧p2≠gb∧p3≠gb∧p4≠gb∧g≠gb) (n2:pl≠p4∧p2≠p4∧p3≠p4∧g≠p4) :
  Calls Tryz.prog 336 #[.int .i64 0,.pointer (some ⟨pl,0,none⟩),.pointer (some ⟨p2,0,none⟩),.pointer (some ⟨p3,0,none⟩),.pointer (some ⟨p4,0,none⟩)] w fun e w'=>e=.returned (.tuple #[])∧(∃bl',bl'.length=32∧BK w' gb bl')∧Row w' p4 3 #[.int .i64 2]∧Upd (fun j=>j=gb∨j=p4) w w':=by
 have HL1:=Lib.hid (layM_is hl h2 h3 h4 hb hbl he n1 n2)
 have q0:=hl
 have HN:=Lib.hid (And.intro n1 n2)
 have HX:=Lib.hid (And.intro hl (And.intro h2 (And.intro h3 he)))
 have hcm:(cap:Int)≤9223372036854775807:=by have:=he.l2;unfold maxLen at this;omega
 clear hl h3 h4 hb hbl he n1 n2
 go_enter Tryz.func336,Tryz.ntmps336
 go_upto_region 2 with (go_at_call 336;(with_reducible refine HL1.out.mono ?_);rintro e1 w1 ⟨rfl,⟨bl,hbl,hb⟩,h4,hu1⟩)
 clear q0 h2
 obtain⟨⟨n11,n12,n13,n14,n15⟩,n21,n22,n23,n24⟩:=HN.out
 have lt:∀ {b o v},w.cell? ⟨b,o,none⟩=some v→b<w.heap.size:=fun h=>World.block_lt_of_cell? w _ h
 have hl:=(hu1.cell (o:=0) (lt HX.out.1) (by omega)).trans HX.out.1
 have h2:=(hu1.cell (o:=0) (lt HX.out.2.1) (by omega)).trans HX.out.2.1
 have h3:=(hu1.cell (o:=0) (lt HX.out.2.2.1) (by omega)).trans HX.out.2.2.1
 have he:=HX.out.2.2.2.upd hu1 (by omega)
 have HU0:=Lib.hid hu1
 clear hu1 HL1 n11 n12 n13 n14 n15 n21 n22 n23 n24
 have q1:=h4.cell 0
 have c0:=he.c2
 have c1:=he.c3
 have l2:=he.l1
 have hlt:∀ {b o v},w1.cell? ⟨b,o,none⟩=some v→b<w1.heap.size:=fun h=>World.block_lt_of_cell? w1 _ h
 have hcp:=run_copySo (o:=0) (dL:=32) (dC:=32) (w:=w1.drew) (s:=⟨#[103]⟩) (news:=[103]) hb (by rfl) (by rfl) (by decide) (by rw[hbl];decide)
 have hcp:(copyS #[.slice (some ⟨gb,0,none⟩) 32 32,.string ⟨#[103]⟩]).run Tryz.prog w1.drew=.ok (.int .i64 1) (w1.drew.setRow gb ((splice bl 0 [103]).map u8V).toArray):=hcp
 have hu1:Upd (fun j=>j=gb) w1 (w1.drew.setRow gb ((splice bl 0 [103]).map u8V).toArray):=(Upd.drew w1).trans (Upd.setRow _ _ rfl)
 have hb1:BK (w1.drew.setRow gb ((splice bl 0 [103]).map u8V).toArray) gb (splice bl 0 [103]):=BK.setRow (show BK w1.drew gb bl from hb) _
 have hl1:(splice bl 0 [103]).length=32:=by rw[splice_len _ _ _ (by rw[hbl];decide),hbl]
 generalize splice bl 0 [103]=bm at *
 have HK:=Lib.hid (And.intro hu1 (And.intro hb1 hl1))
 have HH:=Lib.hid (And.intro hl (And.intro h2 (And.intro h3 (And.intro h4 he))))
 have HLT:Hid (∀ {b o v},w1.cell? ⟨b,o,none⟩=some v→b<w1.heap.size):=Lib.hid hlt
 clear hb he h4 hu1 hb1 hl1 hbl hlt
 go_region
 generalize w1.drew.setRow gb (bm.map u8V).toArray=wb at *
 obtain⟨⟨n11,n12,n13,n14,n15⟩,n21,n22,n23,n24⟩:=HN.out
 have hl2:=(HK.out.1.cell (o:=0) (HLT.out HH.out.1) n11).trans HH.out.1
 have h22:=(HK.out.1.cell (o:=0) (HLT.out HH.out.2.1) n12).trans HH.out.2.1
 have h23:=(HK.out.1.cell (o:=0) (HLT.out HH.out.2.2.1) n13).trans HH.out.2.2.1
 have h24:=HH.out.2.2.2.1.upd HK.out.1 n14
 have q2:=h24.cell 0
 have z2:=h24.fz 0
 have he2:=HH.out.2.2.2.2.upd HK.out.1 n15
 have d0:=he2.c2
 have d1:=he2.c3
 have k14:=HK.out.2.1.cell (i:=14) (by rw[HK.out.2.2];decide)
 have f14:wb.frozen? ⟨gb,14,none⟩=false:=by have hb2:=HK.out.2.1;unfold BK at hb2;simp[World.frozen?,hb2]
 have HE2:=Lib.hid (And.intro hl2 (And.intro h22 (And.intro h24 he2)))
 clear hl h2 h3 q1 c0 c1 hcp h24 he2
 go_upto_region 3 with fail
 go_region
 have e3:wb.setCell ⟨gb,14,none⟩ (.int .u8 3)=wb.setRow gb ((bm.set 14 3).map u8V).toArray:=by
  rw[HK.out.2.1.setCell,List.map_set]
 rw[e3]
 clear e3
 have hu3:Upd (fun j=>j=gb) wb (wb.setRow gb ((bm.set 14 3).map u8V).toArray).drew:=(Upd.setRow (S:=fun j=>j=gb) wb _ rfl).trans (Upd.drew _)
 have hb3:BK (wb.setRow gb ((bm.set 14 3).map u8V).toArray).drew gb (bm.set 14 3):=HK.out.2.1.setRow (bm.set 14 3)
 have h34:=HE2.out.2.2.1.upd hu3 n14
 have hl3:=(hu3.cell (o:=0) (World.block_lt_of_cell? wb _ HE2.out.1) n11).trans HE2.out.1
 have h32:=(hu3.cell (o:=0) (World.block_lt_of_cell? wb _ HE2.out.2.1) n12).trans HE2.out.2.1
 have hl4:(bm.set 14 3).length=32:=by rw[List.length_set];exact HK.out.2.2
 have HK3:=Lib.hid (And.intro (HK.out.1.trans hu3) (And.intro hb3 hl4))
 clear hu3 hb3 k14 f14 hl2 h22 h23 q2 z2 d0 d1 hl4
 generalize (wb.setRow gb ((bm.set 14 3).map u8V).toArray).drew=w3 at *
 generalize bm.set 14 3=bn at *
 have q3:=h34.cell 0
 have z3:=h34.fz 0
 have hu4:Upd (fun j=>j=p4) w3 (w3.setCell ⟨p4,0,none⟩ (.int .i64 2)):=Upd.set w3 _ rfl
 have hl4:=(hu4.cell (o:=0) (World.block_lt_of_cell? w3 _ hl3) n21).trans hl3
 have h42:=(hu4.cell (o:=0) (World.block_lt_of_cell? w3 _ h32) n22).trans h32
 have hr4:Row (w3.setCell ⟨p4,0,none⟩ (.int .i64 2)) p4 3 #[.int .i64 2]:=by rw[h34.setCell];exact h34.setRow _
 have HK4:Hid (Upd (fun j=>j=gb∨j=p4) w (w3.setCell ⟨p4,0,none⟩ (.int .i64 2))∧BK (w3.setCell ⟨p4,0,none⟩ (.int .i64 2)) gb bn∧bn.length=32∧Row (w3.setCell ⟨p4,0,none⟩ (.int .i64 2)) p4 3 #[.int .i64 2]):=Lib.hid ⟨HU0.out.trans ((HK3.out.1.mono (fun i _ e=>.inl e)).trans (hu4.mono (fun i _ e=>.inr e))),by
    have:=(show Row w3 gb 5 (bn.map u8V).toArray from HK3.out.2.1).upd hu4 (fun e=>n14 e.symm)
    exact this,HK3.out.2.2,hr4⟩
 have HL2:Hid (Calls Tryz.prog 336 #[.int .i64 2,.pointer (some ⟨pl,0,none⟩),.pointer (some ⟨p2,0,none⟩),.pointer (some ⟨p3,0,none⟩),.pointer (some ⟨p4,0,none⟩)] (w3.setCell ⟨p4,0,none⟩ (.int .i64 2)) fun e w'=>e=.returned (.tuple #[])∧w3.setCell ⟨p4,0,none⟩ (.int .i64 2)=w'):=Lib.hid (layE_is hl4 (k:=2) (by decide))
 clear hu4 hl4 hr4
 go_wp2_with (go_at_call 336;(with_reducible refine HL2.out.mono ?_);rintro e1 w4 ⟨rfl,rfl⟩)
 (try simp only[Exit.inBlock,Exit.then]);first|(refine bodyPost_ret (results_none rfl _ _ _) rfl ?_)|(refine bodyPost_end (results_none rfl _ _ _) rfl ?_)
 exact⟨rfl,⟨bn,HK4.out.2.2.1,HK4.out.2.1⟩,HK4.out.2.2.2,HK4.out.1⟩
end
theorem mkB32' (w:World):(mkB (.int .i64 32) (.int .i64 32)).run Tryz.prog w=.ok (.slice (some ⟨w.heap.size,0,none⟩) 32 32) (w.alloc (.cells ((zeros 32).map u8V).toArray 5)):=mkB_run w 32 (by decide)
section
attribute [local go_sem ↓] mkB_eq copyS_eq
theorem lay2_is {w:World} {g cap:Nat}(h:E2 w g cap):Calls Tryz.prog 299 #[.slice (some ⟨g,0,none⟩) 2 cap] w fun e w'=>∃gb,e=.returned (.tuple #[.slice (some ⟨gb,0,none⟩) 32 32,.int .i64 0])∧w.heap.size≤gb∧(∃bl,bl.length=32∧BK w' gb bl)∧Below w.heap.size w w':=by
 have hal:=Go.Joins.below_alloc1 w (.cells #[.slice (some ⟨g,0,none⟩) 2 cap] 31)
 have HR:=Lib.hid (right2_is (h.keep hal))
 have HB:=Lib.hid hal
 have hr:=row_new w 31 #[.slice (some ⟨g,0,none⟩) 2 cap]
 have HRW:=Lib.hid hr
 have c0:=hr.cell 0
 have HE:=Lib.hid (h.keep hal)
 have HS:=Lib.hid (fun (w:World) (g cap:Nat) (h:E2 w g cap)=>sort2_is h)
 clear hal hr h
 go_enter Tryz.func299,Tryz.ntmps299
 go_upto_region 1 with fail
 generalize w.alloc (.cells #[.slice (some ⟨g,0,none⟩) 2 cap] 31)=w1 at *
 go_upto_region 4 with (go_at_call 332;(with_reducible refine HR.out.mono ?_);rintro e2 w2 ⟨rfl,hb2⟩)
 have HB2:=Lib.hid (HB.out.trans (hb2.mono HB.out.size))
 have HR2:=Lib.hid (HRW.out.keep hb2)
 have c2:=HR2.out.cell 0
 have HCL:=Lib.hid (cloneE2_is (HE.out.keep hb2))
 clear hb2 c0 HRW HE HR HB
 go_upto_region 5 with (go_at_call 333;(with_reducible refine HCL.out.mono ?_);rintro e3 w3 ⟨g3,cap3,rfl,hg3,he3,hb3⟩;have z3:=(HR2.out.keep hb3).fz 0;have y3:=(HR2.out.keep hb3).cell 0)
 have hpl:w.heap.size<w2.heap.size:=HR2.out.lt
 have hu4:Upd (fun j=>j=w.heap.size) w3 (w3.setCell ⟨w.heap.size,0,none⟩ (.slice (some ⟨g3,0,none⟩) 2 cap3)):=Upd.set w3 _ rfl
 have he4:=he3.upd hu4 (by omega)
 have c4:(w3.setCell ⟨w.heap.size,0,none⟩ (.slice (some ⟨g3,0,none⟩) 2 cap3)).cell? ⟨w.heap.size,0,none⟩=some (.slice (some ⟨g3,0,none⟩) 2 cap3):=set_same y3
 have HB4:Hid (Below w.heap.size w (w3.setCell ⟨w.heap.size,0,none⟩ (.slice (some ⟨g3,0,none⟩) 2 cap3))):=Lib.hid ((HB2.out.trans (hb3.mono HB2.out.size)).trans (hu4.toBelow (Nat.le_trans HB2.out.size hb3.size) (fun k hk e=>by omega)))
 have HE4:=Lib.hid (And.intro he4 (And.intro hpl hg3))
 have HC4:=Lib.hid c4
 have hcm:(cap3:Int)≤9223372036854775807:=by have:=he4.l2;unfold maxLen at this;omega
 clear hu4 he4 he3 hb3 z3 y3 hg3 hpl c2 HR2 HB2 HCL
 generalize w3.setCell ⟨w.heap.size,0,none⟩ (.slice (some ⟨g3,0,none⟩) 2 cap3)=w4 at *
 have hmk:=mkB32' w4
 have HSO:=Lib.hid (HS.out _ _ _ HE4.out.1)
 go_upto_region 6 with (go_at_call 334;(with_reducible refine HSO.out.mono ?_);rintro e5 wq ⟨rfl,hbq⟩)
 have HE4:=Lib.hid (And.intro (HE4.out.1.keep hbq) HE4.out.2)
 have HC4:=Lib.hid ((hbq.cell (p:=⟨w.heap.size,0,none⟩) (World.block_lt_of_cell? w4 _ HC4.out)).trans HC4.out)
 have HB4:=Lib.hid (HB4.out.trans (hbq.mono HB4.out.size))
 have c4:=HC4.out
 clear hbq hmk HSO
 obtain⟨w4,hwq⟩:∃w4,w4=wq:=⟨_,rfl⟩
 subst hwq
 have hmk:=mkB32' w4
 go_upto_region 10 with fail
 have hp4:w.heap.size<w4.heap.size:=World.block_lt_of_cell? w4 _ HC4.out
 generalize hz:w4.heap.size=z at *
 obtain⟨w5,hw5⟩:∃w5,w5=(((w4.alloc (.cells ((zeros 32).map u8V).toArray 5)).alloc (.cells #[.slice (some ⟨z,0,none⟩) 32 32] 22)).alloc (.cells #[.int .i64 0] 3)).alloc (.cells #[.func (Fn.func 336) #[] #[.pointer (some ⟨w.heap.size,0,none⟩),.pointer (some ⟨z+1+1+1,0,none⟩),.pointer (some ⟨z+1,0,none⟩),.pointer (some ⟨z+1+1,0,none⟩)]] 141):=⟨_,rfl⟩
 rw[← hw5]
 have ra:Row (w4.alloc (.cells ((zeros 32).map u8V).toArray 5)) z 5 ((zeros 32).map u8V).toArray:=by rw[← hz];exact row_new _ _ _
 have rb:Row ((w4.alloc (.cells ((zeros 32).map u8V).toArray 5)).alloc (.cells #[.slice (some ⟨z,0,none⟩) 32 32] 22)) (z+1) 22 #[.slice (some ⟨z,0,none⟩) 32 32]:=by
  have:=row_new (w4.alloc (.cells ((zeros 32).map u8V).toArray 5)) 22 #[.slice (some ⟨z,0,none⟩) 32 32]
  simpa [hz] using this
 have rc:Row (((w4.alloc (.cells ((zeros 32).map u8V).toArray 5)).alloc (.cells #[.slice (some ⟨z,0,none⟩) 32 32] 22)).alloc (.cells #[.int .i64 0] 3)) (z+1+1) 3 #[.int .i64 0]:=by
  have:=row_new ((w4.alloc (.cells ((zeros 32).map u8V).toArray 5)).alloc (.cells #[.slice (some ⟨z,0,none⟩) 32 32] 22)) 3 #[.int .i64 0]
  simpa [hz] using this
 have rd:Row w5 (z+1+1+1) 141 #[.func (Fn.func 336) #[] #[.pointer (some ⟨w.heap.size,0,none⟩),.pointer (some ⟨z+1+1+1,0,none⟩),.pointer (some ⟨z+1,0,none⟩),.pointer (some ⟨z+1+1,0,none⟩)]]:=by
  have:=row_new (((w4.alloc (.cells ((zeros 32).map u8V).toArray 5)).alloc (.cells #[.slice (some ⟨z,0,none⟩) 32 32] 22)).alloc (.cells #[.int .i64 0] 3)) 141 #[.func (Fn.func 336) #[] #[.pointer (some ⟨w.heap.size,0,none⟩),.pointer (some ⟨z+1+1+1,0,none⟩),.pointer (some ⟨z+1,0,none⟩),.pointer (some ⟨z+1+1,0,none⟩)]]
  rw[hw5]
  simpa [hz] using this
 have hb5:Below w4.heap.size w4 w5:=by
  rw[hw5]
  exact((((Below.refl _ _).alloc (Nat.le_refl _) _).alloc (by simp <;> omega) _).alloc (by simp <;> omega) _).alloc (by simp <;> omega) _
 have ra5:Row w5 z 5 ((zeros 32).map u8V).toArray:=by rw[hw5];exact((ra.alloc _).alloc _).alloc _
 have rb5:Row w5 (z+1) 22 #[.slice (some ⟨z,0,none⟩) 32 32]:=by rw[hw5];exact(rb.alloc _).alloc _
 have rc5:Row w5 (z+1+1) 3 #[.int .i64 0]:=by rw[hw5];exact rc.alloc _
 have he5:=HE4.out.1.keep hb5
 have h51:w5.cell? ⟨w.heap.size,0,none⟩=some (.slice (some ⟨g3,0,none⟩) 2 cap3):=(hb5.cell (p:=⟨w.heap.size,0,none⟩) (by rw[hz];exact hp4)).trans HC4.out
 have h5z:w5.heap.size=z+1+1+1+1:=by rw[hw5];simp[hz]
 have hg3:=HE4.out.1.lt
 have h3p:=HE4.out.2
 have HLF:=Lib.hid (layN_is (gb:=z) (bl:=zeros 32) (p2:=z+1+1+1) (p3:=z+1) (p4:=z+1+1) h51 (rd.cell 0) (rb5.cell 0) rc5 ra5 (zeros_len 32) he5 ⟨by omega,by omega,by omega,by omega,by omega⟩ ⟨by omega,by omega,by omega,by omega⟩)
 have d7:=rd.cell 0
 have HO5:=Lib.hid (rb5.cell 0)
 have HRB:=Lib.hid rb5
 have HB5:=Lib.hid (HB4.out.trans (hb5.mono HB4.out.size))
 have HZ:=Lib.hid (And.intro hp4 h5z)
 clear ra rb rc rd hb5 ra5 rb5 rc5 he5 h51 h5z hg3 h3p hw5 hmk c4 HC4 HE4 HB4 hz hp4
 go_upto_region 11 with (go_at_call 336;(with_reducible refine HLF.out.mono ?_);rintro e6 w6 ⟨rfl,hk6,-,hu6⟩)
 have c11:=(HRB.out.upd hu6 (fun e=>by omega)).cell 0
 have HF:=Lib.hid (And.intro hk6 (hu6.toBelow (B:=w.heap.size) (by have:=HZ.out;omega) (fun k hk e=>by have:=HZ.out;omega)))
 clear hk6 hu6
 go_wp2_with fail
 go_ret2
 exact⟨z,rfl,by have:=HZ.out;omega,HF.out.1,HB5.out.trans HF.out.2⟩
end
theorem pushG {w:World} {g cap:Nat}(he:E1 w g 0 cap) {B:Nat}(hB:B≤g):∃g' c w',(apE #[.slice (some ⟨g,0,none⟩) 1 cap,.slice (some ⟨w.heap.size,0,none⟩) 1 1]).run Tryz.prog (w.alloc (.cells #[.string ⟨#[103]⟩,.int .i64 3] 388))=.ok (.slice (some ⟨g',0,none⟩) 2 c) w'∧B≤g'∧E2 w' g' c∧Below B w w':=by
 have hlt:=he.lt
 have hal:=(Below.refl B w).alloc (by omega) (.cells #[.string ⟨#[103]⟩,.int .i64 3] 388)
 have hal0:=Go.Joins.below_alloc1 w (.cells #[.string ⟨#[103]⟩,.int .i64 3] 388)
 obtain⟨i0,hi,hz0,hz1,hz2⟩:=info_parts infoE
 obtain⟨C,hr,hs⟩:=he.rw rfl
 have hl1:=he.l1
 have hown:w.ownsRow B 388 2 (.slice (some ⟨g,0,none⟩) 1 cap) 1 dentC:=by
  refine⟨rfl,.inr ⟨g,cap,C,rfl,hB,hr,he.l1,he.l2,hs,?_⟩⟩
  have e0:=(hr.cell 0).symm.trans he.c0
  have e1:=(hr.cell 1).symm.trans he.c1
  apply List.ext_getElem?
  intro j
  rw[List.getElem?_take,Array.getElem?_toList]
  rcases j with _|_|j
  ·rw[if_pos (by decide),e0];rfl
  ·rw[if_pos (by decide)];exact e1
  ·rw[if_neg (by omega)];simp[dentC]
 obtain⟨v',w',hr,ho,hg,-⟩:=run_append_fresh (P:=Tryz.prog) (w.alloc (.cells #[.string ⟨#[103]⟩,.int .i64 3] 388)) B 31 31 388 i0 _ 2 24 Tryz.underlying31 hi hz0 hz1 hz2 rfl (by decide) (.slice (some ⟨g,0,none⟩) 1 cap) 1 dentC (owns_keep hown hal0) ⟨w.heap.size,0,none⟩ 1 1 [.string ⟨#[103]⟩,.int .i64 3] rfl (cells_new w [.string ⟨#[103]⟩,.int .i64 3] 388) (by intro u hu;simp at hu;rcases hu with rfl|rfl <;> rfl) (by unfold maxLen;omega) (by omega) (by have:=hal.size;omega)
 obtain⟨g',c,rfl,h1,h2⟩:=E2.of_own (show w'.ownsRow B 388 2 v' 2 dentD from ho)
 exact⟨g',c,w',hr,h1,h2,hal.trans ((Below.refl _ _).grown hg (by have:=hal.size;omega) (fun g hgg=>by simp[Value.ownBlock] at hgg;omega))⟩
section
attribute [local go_sem ↓] apE_eq
theorem findG_is {w:World} {b o c:Nat}(hv:At (Value.int .u8) 0 w (.slice (some ⟨b,o,none⟩) 16 c) entL):Calls Tryz.prog 203 #[.slice (some ⟨b,o,none⟩) 16 c,.string ⟨#[103]⟩] w fun e w'=>e=.returned (.tuple #[.int .i64 0,.int .i64 1,.int .i64 4])∧Below w.heap.size w w':=by
 have HL:=Lib.hid (list1_is hv)
 have HV:=Lib.hid hv
 have HC:=Lib.hid (fun w=>cmpG_is w)
 clear hv
 go_enter Tryz.func203,Tryz.ntmps203
 go_wp2_with (go_at_call 244;(with_reducible refine HL.out.mono ?_);rintro e1 w1 ⟨g,cap,rfl,hg,he,hb1⟩)
 have HB1:=Lib.hid hb1
 have HR:=Lib.hid (row_is (HV.out.keep hb1))
 clear hg he hb1 HL
 refine wp_loop_rounds 2 ?_
 rw[rounds_succ]
 go_wp2_with (first|(go_at_call 266;(with_reducible refine HR.out.mono ?_);rintro e2 w2 ⟨rfl,hb2⟩;have HB2:=Lib.hid (HB1.out.trans (hb2.mono HB1.out.size));clear hb2)|(go_at_call 267;(with_reducible refine(HC.out _).mono ?_);rintro e2 w3 ⟨rfl,rfl⟩))
 rw[rounds_succ]
 go_wp2_with fail
 first|go_ret3|go_ret
 exact⟨rfl,HB2.out.alloc HB2.out.size _⟩
theorem putG_is {w:World} {b o c:Nat}(hv:At (Value.int .u8) 0 w (.slice (some ⟨b,o,none⟩) 16 c) entL):Calls Tryz.prog 268 #[.slice (some ⟨b,o,none⟩) 16 c,.agg #[.string ⟨#[103]⟩,.int .i64 3]] w fun e w'=>∃gb,e=.returned (.tuple #[.slice (some ⟨gb,0,none⟩) 32 32,.int .i64 0])∧w.heap.size≤gb∧(∃bl,bl.length=32∧BK w' gb bl)∧Below w.heap.size w w':=by
 have HB:=Lib.hid (Go.Joins.below_alloc1 w (.cells #[.string ⟨#[103]⟩,.int .i64 3] 388))
 have HR:=Lib.hid (row_new w 388 #[.string ⟨#[103]⟩,.int .i64 3])
 have HL:=Lib.hid (list1_is (hv.keep HB.out))
 have HN:=Lib.hid (fun w=>nameG_is w)
 clear hv
 go_enter Tryz.func268,Tryz.ntmps268
 go_upto_region 1 with fail
 generalize w.alloc (.cells #[.string ⟨#[103]⟩,.int .i64 3] 388)=w1 at *
 go_upto_region 4 with (go_at_call 244;(with_reducible refine HL.out.mono ?_);rintro e2 w2 ⟨g,cap,rfl,hg,he,hb2⟩)
 have r2:=HR.out.keep hb2
 have c0:=r2.cell 0
 have c1:=r2.cell 1
 have HB2:=Lib.hid (HB.out.trans (hb2.mono HB.out.size))
 have hcm:(cap:Int)≤9223372036854775807:=by have:=he.l2;unfold maxLen at this;omega
 have HX:=Lib.hid (conX_is (idxP_is he.c0 he.c1 hcm he.l1 c0))
 have HE:=Lib.hid he
 have HGW:Hid (w1.heap.size≤g):=Lib.hid hg
 have HR2:=Lib.hid r2
 have l1:=he.l1
 clear hb2 r2 HL HR he hg
 go_upto_region 10 with (first|(go_at_call 201;(with_reducible refine(HN.out _).mono ?_);rintro e1 w3 ⟨rfl,rfl⟩)|(go_at_call 316;(with_reducible refine HX.out.mono ?_);rintro e1 w3 ⟨rfl,hb3⟩))
 have HE3:=Lib.hid (HE.out.keep hb3)
 have HB3:=Lib.hid (HB2.out.trans (hb3.mono HB2.out.size))
 have r3:=HR2.out.keep hb3
 have d0:=r3.cell 0
 have d1:=r3.cell 1
 obtain⟨g2,cap2,w4,hap,hg2,he2,hb4⟩:=pushG HE3.out (B:=w.heap.size) (Nat.le_trans HB.out.size HGW.out)
 have HL1:=Lib.hid (lay2_is he2)
 have HB4:=Lib.hid (HB3.out.trans hb4)
 clear hg2 he2 hb4 hb3 r3 c0 c1 HX HE HN
 go_wp2_with (go_at_call 299;(with_reducible refine HL1.out.mono ?_);rintro e5 w5 ⟨gb,rfl,hgb,hk5,hb5⟩)
 go_ret2
 exact⟨gb,rfl,Nat.le_trans HB4.out.size hgb,hk5,HB4.out.trans (hb5.mono HB4.out.size)⟩
end
end Go.Proofs.YtfkepfncgdlgoaaGreatDoor
