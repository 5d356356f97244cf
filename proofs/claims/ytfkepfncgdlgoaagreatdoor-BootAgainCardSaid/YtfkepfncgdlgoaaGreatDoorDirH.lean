/- The walks of package dir at no entries. The walks of package dir at no entries: Lay, List, Find. The walks of package dir at one entry: Right, Clone, Lay. The walks of package dir at one entry: lay. The walks of package dir at one entry: List, Find, Put. -/
import Derived.Test.YtfkepfncgdlgoaaGreatDoorDirC
import Derived.Test.YtfkepfncgdlgoaaGreatDoorStart
import Derived.Test.YtfkepfncgdlgoaaGreatDoorFsR
import Derived.Laws.EntriesVeiled
import Derived.BigRegion
namespace Go.Proofs.YtfkepfncgdlgoaaGreatDoor
open Go.RowKit Go.Maps
set_option linter.unusedVariables false
set_option linter.unusedSimpArgs false
set_option maxRecDepth 100000
set_option maxHeartbeats 1000000
theorem isortE_is (w:World) (v f:Value) (n:Int)(hn:n=0∨n=1):Calls Tryz.prog 375 #[v,.int .i64 0,.int .i64 n,f] w fun e w'=>e=.returned (.tuple #[])∧w=w':=by
 rcases hn with rfl|rfl
 all_goals
  go_enter Tryz.func375,Tryz.ntmps375
  go_wp2_with fail
  refine wp_loop_rounds 1 ?_
  rw[rounds_succ]
  go_wp2_with fail
  (try simp only[Exit.inBlock,Exit.then]);first|(refine bodyPost_ret (results_none rfl _ _ _) rfl ?_)|(refine bodyPost_end (results_none rfl _ _ _) rfl ?_)
  exact⟨rfl,rfl⟩
theorem pdqE_is (w:World) (v f:Value) (k:Value) (n:Int)(hn:n=0∨n=1):Calls Tryz.prog 352 #[v,.int .i64 0,.int .i64 n,k,f] w fun e w'=>e=.returned (.tuple #[])∧w=w':=by
 have HI:=Lib.hid (isortE_is w v f n hn)
 rcases hn with rfl|rfl
 all_goals
  go_enter Tryz.func352,Tryz.ntmps352
  go_wp2_with fail
  refine wp_loop_rounds 1 ?_
  rw[rounds_succ]
  go_wp2_with (go_at_call 375;refine HI.out.mono ?_;rintro e1 w1 ⟨rfl,rfl⟩)
  (try simp only[Exit.inBlock,Exit.then]);first|(refine bodyPost_ret (results_none rfl _ _ _) rfl ?_)|(refine bodyPost_end (results_none rfl _ _ _) rfl ?_)
  exact⟨rfl,rfl⟩
theorem len64_1 (w:World):Calls Tryz.prog 282 #[.int .u64 1] w fun e w'=>e=.returned (.int .i64 1)∧w=w':=by
 go_enter Tryz.func282,Tryz.ntmps282
 go_wp2_with fail
 go_ret
 exact⟨by kernel_rfl,rfl⟩
theorem len_1 (w:World):Calls Tryz.prog 214 #[.int .u64 1] w fun e w'=>e=.returned (.int .i64 1)∧w=w':=by
 have HI:=Lib.hid (len64_1 w)
 go_enter Tryz.func214,Tryz.ntmps214
 go_wp2_with (go_at_call 282;refine HI.out.mono ?_;rintro e1 w1 ⟨rfl,rfl⟩)
 go_ret
 exact⟨rfl,rfl⟩
theorem sortE_is (w:World) (f:Value) (a:Option Addr) (n c:Nat)(hn:n=0∨n=1):Calls Tryz.prog 334 #[.slice a n c,f] w fun e w'=>e=.returned (.tuple #[])∧w=w':=by
 have HP0:=Lib.hid (fun k=>pdqE_is w (.slice a 0 c) f k 0 (.inl rfl))
 have HP1:=Lib.hid (fun k=>pdqE_is w (.slice a 1 c) f k 1 (.inr rfl))
 have HI0:=Lib.hid (len_is w)
 have HI1:=Lib.hid (len_1 w)
 rcases hn with rfl|rfl
 all_goals
  go_enter Tryz.func334,Tryz.ntmps334
  go_wp2_with (first|(go_at_call 214;(with_reducible refine HI0.out.mono ?_);rintro e1 w1 ⟨rfl,rfl⟩)|(go_at_call 214;(with_reducible refine HI1.out.mono ?_);rintro e1 w1 ⟨rfl,rfl⟩)|(go_at_call 352;(with_reducible refine(HP0.out _).mono ?_);rintro e1 w1 ⟨rfl,rfl⟩)|(go_at_call 352;(with_reducible refine(HP1.out _).mono ?_);rintro e1 w1 ⟨rfl,rfl⟩))
  (try simp only[Exit.inBlock,Exit.then]);first|(refine bodyPost_ret (results_none rfl _ _ _) rfl ?_)|(refine bodyPost_end (results_none rfl _ _ _) rfl ?_)
  exact⟨rfl,rfl⟩
theorem layE_is {w:World} {pl p2 p3 p4:Nat} {a:Option Addr} {n c:Nat}(hl:w.cell? ⟨pl,0,none⟩=some (.slice a n c)) {k:Nat}(hk:n≤k):Calls Tryz.prog 336 #[.int .i64 k,.pointer (some ⟨pl,0,none⟩),.pointer (some ⟨p2,0,none⟩),.pointer (some ⟨p3,0,none⟩),.pointer (some ⟨p4,0,none⟩)] w fun e w'=>e=.returned (.tuple #[])∧w=w':=by
 have h1:(n:Int)≤k:=by omega
 go_enter Tryz.func336,Tryz.ntmps336
 go_wp2_with fail
 (try simp only[Exit.inBlock,Exit.then]);first|(refine bodyPost_ret (results_none rfl _ _ _) rfl ?_)|(refine bodyPost_end (results_none rfl _ _ _) rfl ?_)
 exact⟨rfl,rfl⟩
theorem walkE_is {w:World} {p1 p2 p3 p4:Nat} {n:Nat}(hl:w.cell? ⟨p1,0,none⟩=some (.int .i64 n)) {k:Nat}(hk:n≤k):Calls Tryz.prog 298 #[.int .i64 k,.pointer (some ⟨p1,0,none⟩),.pointer (some ⟨p2,0,none⟩),.pointer (some ⟨p3,0,none⟩),.pointer (some ⟨p4,0,none⟩)] w fun e w'=>e=.returned (.tuple #[])∧w=w':=by
 have h1:¬(k:Int)<n:=by omega
 go_enter Tryz.func298,Tryz.ntmps298
 go_wp2_with fail
 (try simp only[Exit.inBlock,Exit.then]);first|(refine bodyPost_ret (results_none rfl _ _ _) rfl ?_)|(refine bodyPost_end (results_none rfl _ _ _) rfl ?_)
 exact⟨rfl,rfl⟩
theorem right0_is (w:World):Calls Tryz.prog 332 #[.slice none 0 0] w fun e w'=>e=.returned (.int .i64 0)∧w=w':=by
 go_enter Tryz.func332,Tryz.ntmps332
 go_wp2_with fail
 refine wp_loop_rounds 1 ?_
 rw[rounds_succ]
 go_wp2_with fail
 go_ret
 exact⟨rfl,rfl⟩
theorem cloneE0_is (w:World):Calls Tryz.prog 333 #[.slice none 0 0] w fun e w'=>e=.returned (.slice none 0 0)∧w=w':=by
 have q22:∀(w:World) (a:Option Addr) (n c n' c':Nat),(binOp .eql 31 (.slice a n c) (.slice none n' c')).run Tryz.prog w=.ok (.bool a.isNone) w:=fun w a n c n' c'=>Lib.run_eql_slice_nil w _ _ a n c n' c' Tryz.underlying31
 go_enter Tryz.func333,Tryz.ntmps333
 go_wp2
 go_ret
 exact⟨rfl,rfl⟩
theorem mkB0 (w:World):(mkB (.int .i64 0) (.int .i64 0)).run Tryz.prog w=.ok (.slice (some ⟨w.heap.size,0,none⟩) 0 0) (w.alloc (.cells #[] 5)):=mkB_run w 0 (by decide)
section
attribute [local go_sem ↓] mkB_eq
theorem dlay0_is (w:World):Calls Tryz.prog 299 #[.slice none 0 0] w fun e w'=>∃g,e=.returned (.tuple #[.slice (some ⟨g,0,none⟩) 0 0,.int .i64 0])∧w.heap.size≤g∧g<w'.heap.size∧Below w.heap.size w w':=by
 have HR:=Lib.hid (fun w=>right0_is w)
 have HC:=Lib.hid (fun w=>cloneE0_is w)
 have HS:=Lib.hid (fun w f=>sortE_is w f none 0 0 (.inl rfl))
 have hm:=mkB0
 have HB:=Lib.hid (Go.Joins.below_alloc1 w (.cells #[.slice none 0 0] 31))
 go_enter Tryz.func299,Tryz.ntmps299
 go_wp2_with (first|(go_at_call 332;(with_reducible refine(HR.out _).mono ?_);rintro e1 w1 ⟨rfl,rfl⟩)|(go_at_call 333;(with_reducible refine(HC.out _).mono ?_);rintro e1 w1 ⟨rfl,rfl⟩)|(go_at_call 334;(with_reducible refine(HS.out _ _).mono ?_);rintro e1 w1 ⟨rfl,rfl⟩)|(go_at_call 336;refine(layE_is (n:=0) (c:=0) (a:=none) (by simp[go_sem]) (k:=0) (Nat.le_refl _)).mono ?_;rintro e1 w1 ⟨rfl,rfl⟩))
 go_ret2
 refine⟨_,rfl,by simp <;> omega,by simp <;> omega,?_⟩
 exact(((((HB.out.alloc HB.out.size _).alloc (by simp <;> omega) _).alloc (by simp <;> omega) _).alloc (by simp <;> omega) _))
theorem eqN0 (w:World) (a:Option Addr) (c:Nat):Calls Tryz.prog 10 #[.slice a 0 c,.slice none 0 0] w fun e w'=>e=.returned (.bool true)∧w=w':=by
 go_enter Tryz.func10,Tryz.ntmps10
 go_wp2_with fail
 refine wp_loop_rounds 1 ?_
 rw[rounds_succ]
 go_wp2_with fail
 go_ret
 exact⟨rfl,rfl⟩
theorem list0_is (w:World):Calls Tryz.prog 244 #[.slice none 0 0] w fun e w'=>e=.returned (.tuple #[.slice none 0 0,.int .i64 0])∧Below w.heap.size w w':=by
 have HL:=Lib.hid (fun w=>dlay0_is w)
 have HE:=Lib.hid (fun w a c=>eqN0 w a c)
 have HB:=Lib.hid (Go.Joins.below_alloc1 w (.cells #[.slice none 0 0] 22))
 go_enter Tryz.func244,Tryz.ntmps244
 go_wp2_with (first|(go_at_call 299;(with_reducible refine(HL.out _).mono ?_);rintro e1 w1 ⟨g1,rfl,hg1,hg2,hb1⟩;have d0:w1.cell? ⟨w.heap.size,0,none⟩=some (.slice none 0 0):=(hb1.cell (p:=⟨w.heap.size,0,none⟩) (by simp <;> omega)).trans (by simp[go_sem]);have d2:w1.cell? ⟨w.heap.size+1+1,0,none⟩=some (.slice none 0 0):=(hb1.cell (p:=⟨w.heap.size+1+1,0,none⟩) (by simp)).trans (by simp[go_sem]);have HB1:Hid (Below w.heap.size w w1):=Lib.hid ((((HB.out.alloc (by simp <;> omega) _).alloc (by simp <;> omega) _).alloc (by simp <;> omega) _).trans (hb1.mono (by simp <;> omega)));clear hb1 hg1 hg2)|(go_at_call 10;(with_reducible refine(HE.out _ _ _).mono ?_);rintro e1 w1 ⟨rfl,rfl⟩)|(go_at_call 298;refine(walkE_is (n:=0) (by simp[go_sem]) (k:=0) (Nat.le_refl _)).mono ?_;rintro e1 w1 ⟨rfl,rfl⟩))
 go_ret2
 exact⟨rfl,HB1.out⟩
end
structure E1 (w:World) (g o cap:Nat):Prop where
 c0:w.cell? ⟨g,o,none⟩=some (.string ⟨#[102]⟩)
 c1:w.cell? ⟨g,o+1,none⟩=some (.int .i64 2)
 l1:1≤cap
 l2:cap≤maxLen
 rw:o=0→∃C,Row w g 388 C∧C.size=cap*2
theorem E1.lt {w:World} {g o cap:Nat}(h:E1 w g o cap):g<w.heap.size:=World.block_lt_of_cell? w _ h.c0
theorem E1.keep {w w':World} {g o cap:Nat}(h:E1 w g o cap)(hb:Below w.heap.size w w'):E1 w' g o cap:=⟨(hb.cell (p:=⟨g,o,none⟩) h.lt).trans h.c0,(hb.cell (p:=⟨g,o+1,none⟩) h.lt).trans h.c1,h.l1,h.l2,fun e=>by obtain⟨C,hr,hs⟩:=h.rw e;exact⟨C,hr.keep hb,hs⟩⟩
theorem E1.upd {S:Nat→Prop} {w w':World} {g o cap:Nat}(h:E1 w g o cap)(hu:Upd S w w')(hn:¬S g):E1 w' g o cap:=⟨(hu.cell h.lt hn).trans h.c0,(hu.cell h.lt hn).trans h.c1,h.l1,h.l2,fun e=>by obtain⟨C,hr,hs⟩:=h.rw e;exact⟨C,hr.upd hu hn,hs⟩⟩
theorem didx0_is (w:World) (a:Option Addr) (c:Nat) (f:Value):Calls Tryz.prog 328 #[.slice a 0 c,f] w fun e w'=>e=.returned (.int .i64 (-1))∧w=w':=by
 go_enter Tryz.func328,Tryz.ntmps328
 go_wp2_with fail
 refine wp_loop_rounds 1 ?_
 rw[rounds_succ]
 go_wp2_with fail
 go_ret
 exact⟨rfl,rfl⟩
theorem con0_is (w:World) (a:Option Addr) (c:Nat) (f:Value):Calls Tryz.prog 316 #[.slice a 0 c,f] w fun e w'=>e=.returned (.bool false)∧w=w':=by
 have H:=Lib.hid (didx0_is w a c f)
 go_enter Tryz.func316,Tryz.ntmps316
 go_wp2_with (go_at_call 328;refine H.out.mono ?_;rintro e1 w1 ⟨rfl,rfl⟩)
 go_ret
 exact⟨rfl,rfl⟩
theorem right1_is {w:World} {g o cap:Nat}(h:E1 w g o cap):Calls Tryz.prog 332 #[.slice (some ⟨g,o,none⟩) 1 cap] w fun e w'=>e=.returned (.int .i64 0)∧Below w.heap.size w w':=by
 have c0:=h.c0
 have c1:=h.c1
 have hcm:(cap:Int)≤9223372036854775807:=by have:=h.l2;unfold maxLen at this;omega
 have HN:=Lib.hid (fun w=>name_is w)
 have HC:=Lib.hid (fun w a c f=>con0_is w a c f)
 have HB:=Lib.hid (Go.Joins.below_alloc1 w (.cells #[.string ⟨#[102]⟩,.int .i64 2] 388))
 clear h
 go_enter Tryz.func332,Tryz.ntmps332
 go_wp2_with fail
 refine wp_loop_rounds 2 ?_
 rw[rounds_succ]
 go_wp2_with (first|(go_at_call 201;(with_reducible refine(HN.out _).mono ?_);rintro e1 w1 ⟨rfl,rfl⟩)|(go_at_call 316;(with_reducible refine(HC.out _ _ _ _).mono ?_);rintro e1 w1 ⟨rfl,rfl⟩))
 rw[rounds_succ]
 go_wp2_with fail
 go_ret
 exact⟨rfl,HB.out⟩
theorem infoE:(Tryz.prog.info? 388).map (fun i=>(i.zero,i.size,i.bytes))=some (some (.agg #[.string ⟨#[]⟩,.int .i64 0]),2,24):=by kernel_rfl
def dentC:List Value:=[.string ⟨#[102]⟩,.int .i64 2]
theorem E1.of_own {w:World} {B:Nat} {v:Value}(h:w.ownsRow B 388 2 v 1 dentC):∃g cap,v=.slice (some ⟨g,0,none⟩) 1 cap∧B≤g∧E1 w g 0 cap:=by
 rcases h.2 with ⟨_,h0⟩|⟨g,cap,cur,rfl,hB,hg,h1,h2,h3,h4⟩
 ·omega
 ·have hr:Row w g 388 cur:=hg
  have hc:∀j,j<2→w.cell? ⟨g,j,none⟩=dentC[j]?:=fun j hj=>by
   rw[hr.cell,← h4,List.getElem?_take,if_pos (by omega),Array.getElem?_toList]
  exact⟨g,cap,rfl,hB,hc 0 (by decide),hc 1 (by decide),h1,h2,fun _=>⟨cur,hr,h3⟩⟩
theorem cloneE1_is {w:World} {g o cap:Nat}(h:E1 w g o cap):Calls Tryz.prog 333 #[.slice (some ⟨g,o,none⟩) 1 cap] w fun e w'=>∃g' cap',e=.returned (.slice (some ⟨g',0,none⟩) 1 cap')∧w.heap.size≤g'∧E1 w' g' 0 cap'∧Below w.heap.size w w':=by
 have q22:∀(w:World) (a:Option Addr) (n c n' c':Nat),(binOp .eql 31 (.slice a n c) (.slice none n' c')).run Tryz.prog w=.ok (.bool a.isNone) w:=fun w a n c n' c'=>Lib.run_eql_slice_nil w _ _ a n c n' c' Tryz.underlying31
 have hcl:∀j u,dentC[j]?=some u→w.cell? ((⟨g,o,none⟩:Addr).add j)=some u:=fun j u hj=>by
  rw[Addr.add_lit]
  rcases j with _|_|j
  ·rw[← hj];exact h.c0
  ·rw[← hj];exact h.c1
  ·simp[dentC] at hj
 have HC:=Lib.hid hcl
 have hcm:(cap:Int)≤9223372036854775807:=by have:=h.l2;unfold maxLen at this;omega
 have HN:=Lib.hid (fun (w':World) (v:Value) (q:w'.ownsRow w.heap.size 388 2 v 1 dentC)=>E1.of_own q)
 have ho:∀u∈dentC,u.oneCell'=true:=by intro u hu;simp[dentC] at hu;rcases hu with rfl|rfl <;> rfl
 have HO:=Lib.hid ho
 clear hcl h ho
 obtain⟨i0,hi,hz0,hz1,hz2⟩:=info_parts infoE
 go_enter Tryz.func333,Tryz.ntmps333
 go_wp2_with (at_builtin;go_loud (refine wpList_append_fresh _ rfl (.tmp 5) (.tmp 6) 31 rfl w.heap.size 388 i0 _ 2 24 Tryz.underlying31 hi hz0 hz1 hz2 rfl (by decide) _ _ _ rfl (World.ownsRow_made w #[] 0 (Nat.le_refl _) (Nat.zero_le _) rfl) ⟨g,o,none⟩ 1 _ dentC rfl (by decide) (fun j u h=>by have:=HC.out j u h;rw[World.cell?_alloc_lt];exact this;exact World.block_lt_of_cell? w _ this) HO.out (by unfold maxLen;omega) (by omega) (by simp) ?_))
 intro v' w1 hown hgrow hfresh
 have hb1:Below w.heap.size w w1:=((Below.refl _ _).alloc (Nat.le_refl _) _).grown hgrow (by simp) (fun g hg=>by simp[Value.ownBlock] at hg;omega)
 clear hgrow hfresh
 obtain⟨g',cap',rfl,e1,e2⟩:=HN.out w1 v' (by simpa using hown)
 have HR:=Lib.hid (And.intro e1 (And.intro e2 hb1))
 clear hown e1 e2 hb1
 go_wp2_with fail
 go_ret
 exact⟨g',cap',rfl,HR.out⟩
section
attribute [local go_sem ↓] mkB_eq copyS_eq
theorem layF_is {w:World} {pl p2 p3 p4 gb g o cap:Nat}(hl:w.cell? ⟨pl,0,none⟩=some (.slice (some ⟨g,o,none⟩) 1 cap))(h2:w.cell? ⟨p2,0,none⟩=some (.func (Fn.func 336) #[] #[.pointer (some ⟨pl,0,none⟩),.pointer (some ⟨p2,0,none⟩),.pointer (some ⟨p3,0,none⟩),.pointer (some ⟨p4,0,none⟩)]))(h3:w.cell? ⟨p3,0,none⟩=some (.slice (some ⟨gb,0,none⟩) 16 16))(h4:Row w p4 3 #[.int .i64 0])(hb:BK w gb (zeros 16))(he:E1 w g o cap)
  (n1:pl≠gb∧p2≠gb∧p3≠gb∧p4≠gb∧g≠gb) (n2:pl≠p4∧p2≠p4∧p3≠p4∧g≠p4) :
  Calls Tryz.prog 336 #[.int .i64 0,.pointer (some ⟨pl,0,none⟩),.pointer (some ⟨p2,0,none⟩),.pointer (some ⟨p3,0,none⟩),.pointer (some ⟨p4,0,none⟩)] w fun e w'=>e=.returned (.tuple #[])∧BK w' gb entL∧Upd (fun j=>j=gb∨j=p4) w w':=by
 have q1:=h4.cell 0
 have c0:=he.c0
 have c1:=he.c1
 have hcm:(cap:Int)≤9223372036854775807:=by have:=he.l2;unfold maxLen at this;omega
 have HL1:Hid (Calls Tryz.prog 336 #[.int .i64 1,.pointer (some ⟨pl,0,none⟩),.pointer (some ⟨p2,0,none⟩),.pointer (some ⟨p3,0,none⟩),.pointer (some ⟨p4,0,none⟩)] w fun e w'=>e=.returned (.tuple #[])∧w=w'):=Lib.hid (layE_is hl (k:=1) (Nat.le_refl _))
 have hlt:∀ {b o v},w.cell? ⟨b,o,none⟩=some v→b<w.heap.size:=fun h=>World.block_lt_of_cell? w _ h
 have hcp:=run_copyS (dC:=16) (w:=w.drew) (s:=⟨#[102]⟩) (news:=[102]) hb (by rfl) (by rfl) (by decide)
 rw[zeros_len] at hcp
 have hcp:(copyS #[.slice (some ⟨gb,0,none⟩) 16 16,.string ⟨#[102]⟩]).run Tryz.prog w.drew=.ok (.int .i64 1) (w.drew.setRow gb ((splice (zeros 16) 0 [102]).map u8V).toArray):=hcp
 have hu1:Upd (fun j=>j=gb) w (w.drew.setRow gb ((splice (zeros 16) 0 [102]).map u8V).toArray):=(Upd.drew w).trans (Upd.setRow _ _ rfl)
 have hb1:BK (w.drew.setRow gb ((splice (zeros 16) 0 [102]).map u8V).toArray) gb (splice (zeros 16) 0 [102]):=BK.setRow (show BK w.drew gb (zeros 16) from hb) _
 have HK:=Lib.hid (And.intro hu1 hb1)
 have HH:=Lib.hid (And.intro hl (And.intro h2 (And.intro h3 (And.intro h4 he))))
 have HN:=Lib.hid (And.intro n1 n2)
 clear hb he h4 hu1 hb1 n1 n2
 go_enter Tryz.func336,Tryz.ntmps336
 go_upto_region 2 with (go_at_call 336;(with_reducible refine HL1.out.mono ?_);rintro e1 w1 ⟨rfl,rfl⟩)
 go_region
 generalize w.drew.setRow gb ((splice (zeros 16) 0 [102]).map u8V).toArray=w2 at *
 obtain⟨⟨n11,n12,n13,n14,n15⟩,n21,n22,n23,n24⟩:=HN.out
 have hl2:=(HK.out.1.cell (o:=0) (hlt HH.out.1) n11).trans HH.out.1
 have h22:=(HK.out.1.cell (o:=0) (hlt HH.out.2.1) n12).trans HH.out.2.1
 have h23:=(HK.out.1.cell (o:=0) (hlt HH.out.2.2.1) n13).trans HH.out.2.2.1
 have h24:=HH.out.2.2.2.1.upd HK.out.1 n14
 have q2:=h24.cell 0
 have z2:=h24.fz 0
 have he2:=HH.out.2.2.2.2.upd HK.out.1 n15
 have d0:=he2.c0
 have d1:=he2.c1
 have k14:=HK.out.2.cell (i:=14) (by decide)
 have f14:w2.frozen? ⟨gb,14,none⟩=false:=by have hb2:=HK.out.2;unfold BK at hb2;simp[World.frozen?,hb2]
 have HE2:=Lib.hid (And.intro hl2 (And.intro h22 (And.intro h24 he2)))
 clear hl h2 h3 q1 c0 c1 hcp h24 he2
 go_upto_region 3 with fail
 go_region
 have e3:w2.setCell ⟨gb,14,none⟩ (.int .u8 2)=w2.setRow gb (entL.map u8V).toArray:=by
  rw[HK.out.2.setCell]
  rfl
 rw[e3]
 clear e3
 have hu3:Upd (fun j=>j=gb) w2 (w2.setRow gb (entL.map u8V).toArray).drew:=(Upd.setRow (S:=fun j=>j=gb) w2 _ rfl).trans (Upd.drew _)
 have hb3:BK (w2.setRow gb (entL.map u8V).toArray).drew gb entL:=HK.out.2.setRow entL
 have h34:=HE2.out.2.2.1.upd hu3 n14
 have hl3:=(hu3.cell (o:=0) (World.block_lt_of_cell? w2 _ HE2.out.1) n11).trans HE2.out.1
 have h32:=(hu3.cell (o:=0) (World.block_lt_of_cell? w2 _ HE2.out.2.1) n12).trans HE2.out.2.1
 have HK3:=Lib.hid (And.intro (HK.out.1.trans hu3) hb3)
 clear hu3 hb3 k14 f14 hl2 h22 h23 q2 z2 d0 d1
 generalize (w2.setRow gb (entL.map u8V).toArray).drew=w3 at *
 have q3:=h34.cell 0
 have z3:=h34.fz 0
 have hu4:Upd (fun j=>j=p4) w3 (w3.setCell ⟨p4,0,none⟩ (.int .i64 1)):=Upd.set w3 _ rfl
 have hl4:=(hu4.cell (o:=0) (World.block_lt_of_cell? w3 _ hl3) n21).trans hl3
 have h42:=(hu4.cell (o:=0) (World.block_lt_of_cell? w3 _ h32) n22).trans h32
 have HK4:Hid (Upd (fun j=>j=gb∨j=p4) w (w3.setCell ⟨p4,0,none⟩ (.int .i64 1))∧BK (w3.setCell ⟨p4,0,none⟩ (.int .i64 1)) gb entL):=Lib.hid ⟨(HK3.out.1.mono (fun i _ e=>.inl e)).trans (hu4.mono (fun i _ e=>.inr e)),by
    have:=(show Row w3 gb 5 (entL.map u8V).toArray from HK3.out.2).upd hu4 (fun e=>n14 e.symm)
    exact this⟩
 have HL2:Hid (Calls Tryz.prog 336 #[.int .i64 2,.pointer (some ⟨pl,0,none⟩),.pointer (some ⟨p2,0,none⟩),.pointer (some ⟨p3,0,none⟩),.pointer (some ⟨p4,0,none⟩)] (w3.setCell ⟨p4,0,none⟩ (.int .i64 1)) fun e w'=>e=.returned (.tuple #[])∧w3.setCell ⟨p4,0,none⟩ (.int .i64 1)=w'):=Lib.hid (layE_is hl4 (k:=2) (by decide))
 clear hu4 hl4
 go_wp2_with (go_at_call 336;(with_reducible refine HL2.out.mono ?_);rintro e1 w4 ⟨rfl,rfl⟩)
 (try simp only[Exit.inBlock,Exit.then]);first|(refine bodyPost_ret (results_none rfl _ _ _) rfl ?_)|(refine bodyPost_end (results_none rfl _ _ _) rfl ?_)
 exact⟨rfl,HK4.out.2,HK4.out.1⟩
theorem mkB16' (w:World):(mkB (.int .i64 16) (.int .i64 16)).run Tryz.prog w=.ok (.slice (some ⟨w.heap.size,0,none⟩) 16 16) (w.alloc (.cells ((zeros 16).map u8V).toArray 5)):=mkB_run w 16 (by decide)
theorem lay1_is {w:World} {g o cap:Nat}(h:E1 w g o cap):Calls Tryz.prog 299 #[.slice (some ⟨g,o,none⟩) 1 cap] w fun e w'=>∃gb,e=.returned (.tuple #[.slice (some ⟨gb,0,none⟩) 16 16,.int .i64 0])∧w.heap.size≤gb∧BK w' gb entL∧Below w.heap.size w w':=by
 have hal:=Go.Joins.below_alloc1 w (.cells #[.slice (some ⟨g,o,none⟩) 1 cap] 31)
 have HR:=Lib.hid (right1_is (h.keep hal))
 have HB:=Lib.hid hal
 have hr:=row_new w 31 #[.slice (some ⟨g,o,none⟩) 1 cap]
 have HRW:=Lib.hid hr
 have c0:=hr.cell 0
 have HE:=Lib.hid (h.keep hal)
 have HS:=Lib.hid (fun w f g cap=>sortE_is w f (some ⟨g,0,none⟩) 1 cap (.inr rfl))
 clear hal hr h
 go_enter Tryz.func299,Tryz.ntmps299
 go_upto_region 1 with fail
 generalize w.alloc (.cells #[.slice (some ⟨g,o,none⟩) 1 cap] 31)=w1 at *
 go_upto_region 4 with (go_at_call 332;(with_reducible refine HR.out.mono ?_);rintro e2 w2 ⟨rfl,hb2⟩)
 have HB2:=Lib.hid (HB.out.trans (hb2.mono HB.out.size))
 have HR2:=Lib.hid (HRW.out.keep hb2)
 have c2:=HR2.out.cell 0
 have HCL:=Lib.hid (cloneE1_is (HE.out.keep hb2))
 clear hb2 c0 HRW HE HR HB
 go_upto_region 5 with (go_at_call 333;(with_reducible refine HCL.out.mono ?_);rintro e3 w3 ⟨g3,cap3,rfl,hg3,he3,hb3⟩;have z3:=(HR2.out.keep hb3).fz 0;have y3:=(HR2.out.keep hb3).cell 0)
 have hpl:w.heap.size<w2.heap.size:=HR2.out.lt
 have hu4:Upd (fun j=>j=w.heap.size) w3 (w3.setCell ⟨w.heap.size,0,none⟩ (.slice (some ⟨g3,0,none⟩) 1 cap3)):=Upd.set w3 _ rfl
 have he4:=he3.upd hu4 (by omega)
 have c4:(w3.setCell ⟨w.heap.size,0,none⟩ (.slice (some ⟨g3,0,none⟩) 1 cap3)).cell? ⟨w.heap.size,0,none⟩=some (.slice (some ⟨g3,0,none⟩) 1 cap3):=set_same y3
 have HB4:Hid (Below w.heap.size w (w3.setCell ⟨w.heap.size,0,none⟩ (.slice (some ⟨g3,0,none⟩) 1 cap3))):=Lib.hid ((HB2.out.trans (hb3.mono HB2.out.size)).trans (hu4.toBelow (Nat.le_trans HB2.out.size hb3.size) (fun k hk e=>by omega)))
 have HE4:=Lib.hid (And.intro he4 (And.intro hpl hg3))
 have HC4:=Lib.hid c4
 have hcm:(cap3:Int)≤9223372036854775807:=by have:=he4.l2;unfold maxLen at this;omega
 clear hu4 he4 he3 hb3 z3 y3 hg3 hpl c2 HR2 HB2 HCL
 generalize w3.setCell ⟨w.heap.size,0,none⟩ (.slice (some ⟨g3,0,none⟩) 1 cap3)=w4 at *
 have hmk:=mkB16' w4
 go_upto_region 10 with (go_at_call 334;(with_reducible refine(HS.out _ _ _ _).mono ?_);rintro e5 w5 ⟨rfl,rfl⟩)
 have hp4:w.heap.size<w4.heap.size:=World.block_lt_of_cell? w4 _ HC4.out
 generalize hz:w4.heap.size=z at *
 obtain⟨w5,hw5⟩:∃w5,w5=(((w4.alloc (.cells ((zeros 16).map u8V).toArray 5)).alloc (.cells #[.slice (some ⟨z,0,none⟩) 16 16] 22)).alloc (.cells #[.int .i64 0] 3)).alloc (.cells #[.func (Fn.func 336) #[] #[.pointer (some ⟨w.heap.size,0,none⟩),.pointer (some ⟨z+1+1+1,0,none⟩),.pointer (some ⟨z+1,0,none⟩),.pointer (some ⟨z+1+1,0,none⟩)]] 141):=⟨_,rfl⟩
 rw[← hw5]
 have ra:Row (w4.alloc (.cells ((zeros 16).map u8V).toArray 5)) z 5 ((zeros 16).map u8V).toArray:=by rw[← hz];exact row_new _ _ _
 have rb:Row ((w4.alloc (.cells ((zeros 16).map u8V).toArray 5)).alloc (.cells #[.slice (some ⟨z,0,none⟩) 16 16] 22)) (z+1) 22 #[.slice (some ⟨z,0,none⟩) 16 16]:=by
  have:=row_new (w4.alloc (.cells ((zeros 16).map u8V).toArray 5)) 22 #[.slice (some ⟨z,0,none⟩) 16 16]
  simpa [hz] using this
 have rc:Row (((w4.alloc (.cells ((zeros 16).map u8V).toArray 5)).alloc (.cells #[.slice (some ⟨z,0,none⟩) 16 16] 22)).alloc (.cells #[.int .i64 0] 3)) (z+1+1) 3 #[.int .i64 0]:=by
  have:=row_new ((w4.alloc (.cells ((zeros 16).map u8V).toArray 5)).alloc (.cells #[.slice (some ⟨z,0,none⟩) 16 16] 22)) 3 #[.int .i64 0]
  simpa [hz] using this
 have rd:Row w5 (z+1+1+1) 141 #[.func (Fn.func 336) #[] #[.pointer (some ⟨w.heap.size,0,none⟩),.pointer (some ⟨z+1+1+1,0,none⟩),.pointer (some ⟨z+1,0,none⟩),.pointer (some ⟨z+1+1,0,none⟩)]]:=by
  have:=row_new (((w4.alloc (.cells ((zeros 16).map u8V).toArray 5)).alloc (.cells #[.slice (some ⟨z,0,none⟩) 16 16] 22)).alloc (.cells #[.int .i64 0] 3)) 141 #[.func (Fn.func 336) #[] #[.pointer (some ⟨w.heap.size,0,none⟩),.pointer (some ⟨z+1+1+1,0,none⟩),.pointer (some ⟨z+1,0,none⟩),.pointer (some ⟨z+1+1,0,none⟩)]]
  rw[hw5]
  simpa [hz] using this
 have hb5:Below w4.heap.size w4 w5:=by
  rw[hw5]
  exact((((Below.refl _ _).alloc (Nat.le_refl _) _).alloc (by simp <;> omega) _).alloc (by simp <;> omega) _).alloc (by simp <;> omega) _
 have ra5:Row w5 z 5 ((zeros 16).map u8V).toArray:=by rw[hw5];exact((ra.alloc _).alloc _).alloc _
 have rb5:Row w5 (z+1) 22 #[.slice (some ⟨z,0,none⟩) 16 16]:=by rw[hw5];exact(rb.alloc _).alloc _
 have rc5:Row w5 (z+1+1) 3 #[.int .i64 0]:=by rw[hw5];exact rc.alloc _
 have he5:=HE4.out.1.keep hb5
 have h51:w5.cell? ⟨w.heap.size,0,none⟩=some (.slice (some ⟨g3,0,none⟩) 1 cap3):=(hb5.cell (p:=⟨w.heap.size,0,none⟩) (by rw[hz];exact hp4)).trans HC4.out
 have h5z:w5.heap.size=z+1+1+1+1:=by rw[hw5];simp[hz]
 have hg3:=HE4.out.1.lt
 have h3p:=HE4.out.2
 have HLF:=Lib.hid (layF_is (gb:=z) (p2:=z+1+1+1) (p3:=z+1) (p4:=z+1+1) h51 (rd.cell 0) (rb5.cell 0) rc5 ra5 he5 ⟨by omega,by omega,by omega,by omega,by omega⟩ ⟨by omega,by omega,by omega,by omega⟩)
 have d7:=rd.cell 0
 have HO5:=Lib.hid (rb5.cell 0)
 have HRB:=Lib.hid rb5
 have HB5:=Lib.hid (HB4.out.trans (hb5.mono HB4.out.size))
 have HZ:=Lib.hid (And.intro hp4 h5z)
 clear ra rb rc rd hb5 ra5 rb5 rc5 he5 h51 h5z hg3 h3p hw5 hmk c4 HC4 HE4 HB4 hz hp4
 go_upto_region 11 with (go_at_call 336;(with_reducible refine HLF.out.mono ?_);rintro e6 w6 ⟨rfl,hk6,hu6⟩)
 have c11:=(HRB.out.upd hu6 (fun e=>by omega)).cell 0
 have HF:=Lib.hid (And.intro hk6 (hu6.toBelow (B:=w.heap.size) (by have:=HZ.out;omega) (fun k hk e=>by have:=HZ.out;omega)))
 clear hk6 hu6
 go_wp2_with fail
 go_ret2
 exact⟨z,rfl,by have:=HZ.out;omega,HF.out.1,HB5.out.trans HF.out.2⟩
end
def apE:=Builtin.append_ #[31,31] 31
theorem apE_eq:Builtin.append_ #[31,31] 31=apE:=rfl
theorem pushE (w:World):∃g c w',(apE #[.slice none 0 0,.slice (some ⟨w.heap.size,0,none⟩) 1 1]).run Tryz.prog (w.alloc (.cells #[.string ⟨#[102]⟩,.int .i64 2] 388))=.ok (.slice (some ⟨g,0,none⟩) 1 c) w'∧w.heap.size≤g∧E1 w' g 0 c∧Below w.heap.size w w':=by
 have hal:=Go.Joins.below_alloc1 w (.cells #[.string ⟨#[102]⟩,.int .i64 2] 388)
 obtain⟨i0,hi,hz0,hz1,hz2⟩:=info_parts infoE
 obtain⟨v',w',hr,ho,hg,-⟩:=run_append_fresh (P:=Tryz.prog) (w.alloc (.cells #[.string ⟨#[102]⟩,.int .i64 2] 388)) w.heap.size 31 31 388 i0 _ 2 24 Tryz.underlying31 hi hz0 hz1 hz2 rfl (by decide) (.slice none 0 0) 0 [] (World.ownsRow_nil _ _ _ _) ⟨w.heap.size,0,none⟩ 1 1 dentC rfl (cells_new w dentC 388) (by intro u hu;simp[dentC] at hu;rcases hu with rfl|rfl <;> rfl) (by unfold maxLen;omega) (by omega) hal.size
 obtain⟨g,c,rfl,h1,h2⟩:=E1.of_own (show w'.ownsRow w.heap.size 388 2 v' 1 dentC from ho)
 exact⟨g,c,w',hr,h1,h2,hal.trans ((Below.refl _ _).grown hg hal.size (fun g hgg=>by simp[Value.ownBlock] at hgg))⟩
section
attribute [local go_sem ↓] apE_eq
theorem walkF_is {w:World} {p1 p2 p3 p4 b o c:Nat}(h1:w.cell? ⟨p1,0,none⟩=some (.int .i64 1))(h2:w.cell? ⟨p2,0,none⟩=some (.func (Fn.func 298) #[] #[.pointer (some ⟨p1,0,none⟩),.pointer (some ⟨p2,0,none⟩),.pointer (some ⟨p3,0,none⟩),.pointer (some ⟨p4,0,none⟩)]))(h3:Row w p3 31 #[.slice none 0 0])(h4:w.cell? ⟨p4,0,none⟩=some (.slice (some ⟨b,o,none⟩) 16 c))(hv:At (Value.int .u8) 0 w (.slice (some ⟨b,o,none⟩) 16 c) entL)
  (n1:p1≠p3∧p2≠p3∧p4≠p3) :
  Calls Tryz.prog 298 #[.int .i64 0,.pointer (some ⟨p1,0,none⟩),.pointer (some ⟨p2,0,none⟩),.pointer (some ⟨p3,0,none⟩),.pointer (some ⟨p4,0,none⟩)] w fun e w'=>e=.returned (.tuple #[])∧∃g cap,Row w' p3 31 #[.slice (some ⟨g,0,none⟩) 1 cap]∧w.heap.size≤g∧E1 w' g 0 cap∧Upd (fun j=>j=p3) w w':=by
 have HW1:Hid (Calls Tryz.prog 298 #[.int .i64 1,.pointer (some ⟨p1,0,none⟩),.pointer (some ⟨p2,0,none⟩),.pointer (some ⟨p3,0,none⟩),.pointer (some ⟨p4,0,none⟩)] w fun e w'=>e=.returned (.tuple #[])∧w=w'):=Lib.hid (walkE_is (n:=1) h1 (k:=1) (Nat.le_refl _))
 have HRW:=Lib.hid (row_is (w:=w.drew) (hv.keep (Below.refl _ _).drew))
 have HH:=Lib.hid (And.intro h1 (And.intro h2 (And.intro h3 h4)))
 have HN:=Lib.hid n1
 have HP:=Lib.hid pushE
 have q3:=h3.cell 0
 clear hv n1 h3
 go_enter Tryz.func298,Tryz.ntmps298
 go_upto_region 2 with (go_at_call 298;(with_reducible refine HW1.out.mono ?_);rintro e1 w1 ⟨rfl,rfl⟩)
 go_region_law (go_simp;go_at_call 266;refine HRW.out.mono ?_;rintro e2 w2 ⟨rfl,hb2⟩;have r2:=HH.out.2.2.1.drew.keep hb2;obtain⟨g,cap,w3,hap,hg,he,hb3⟩:=HP.out w2;have r2a:=r2.alloc (.cells #[.string ⟨#[102]⟩,.int .i64 2] 388);have r3:=r2.keep hb3;have y2:=r2.cell 0;have y2a:=r2a.cell 0;have y3:=r3.cell 0;have z3:=r3.fz 0;have HB3:Hid (Below w.heap.size w w3):=Lib.hid ((Below.refl _ _).drew.trans (hb2.trans (hb3.mono hb2.size)));have HE3:=Lib.hid (And.intro hg (And.intro he (And.intro r3 hb2.size)));clear r2 r2a r3 hb2 hb3 he hg)
 all_goals
  obtain⟨hg,he,r3,hs2⟩:=HE3.out
  have hu:Upd (fun j=>j=p3) w3 (w3.setCell ⟨p3,0,none⟩ (.slice (some ⟨g,0,none⟩) 1 cap)):=Upd.set w3 _ rfl
  have lt1:=World.block_lt_of_cell? w _ HH.out.1
  have lt2:=World.block_lt_of_cell? w _ HH.out.2.1
  have lt3:p3<w.heap.size:=HH.out.2.2.1.lt
  have hz2:w.heap.size≤g:=Nat.le_trans hs2 hg
  have h13:=(HB3.out.cell (p:=⟨p1,0,none⟩) lt1).trans HH.out.1
  have h23:=(HB3.out.cell (p:=⟨p2,0,none⟩) lt2).trans HH.out.2.1
  have h14:=(hu.cell (o:=0) (World.block_lt_of_cell? w3 _ h13) HN.out.1).trans h13
  have h24:=(hu.cell (o:=0) (World.block_lt_of_cell? w3 _ h23) HN.out.2.1).trans h23
  have r4:Row (w3.setCell ⟨p3,0,none⟩ (.slice (some ⟨g,0,none⟩) 1 cap)) p3 31 #[.slice (some ⟨g,0,none⟩) 1 cap]:=by
   rw[r3.setCell]
   exact r3.setRow _
  have he4:=he.upd hu (by omega)
  have HF:=Lib.hid (And.intro r4 (And.intro hz2 (And.intro he4 ((Upd.below (S:=fun j=>j=p3) HB3.out).trans hu))))
  have HW2:Hid (Calls Tryz.prog 298 #[.int .i64 2,.pointer (some ⟨p1,0,none⟩),.pointer (some ⟨p2,0,none⟩),.pointer (some ⟨p3,0,none⟩),.pointer (some ⟨p4,0,none⟩)] (w3.setCell ⟨p3,0,none⟩ (.slice (some ⟨g,0,none⟩) 1 cap)) fun e w'=>e=.returned (.tuple #[])∧w3.setCell ⟨p3,0,none⟩ (.slice (some ⟨g,0,none⟩) 1 cap)=w'):=Lib.hid (walkE_is (n:=1) h14 (k:=2) (by decide))
  clear hu r4 hz2 he4 h14 lt1 lt2 lt3 h13 h23 y2 y2a y3 z3 hg he r3 hs2 hap q3 h1 h2 h4 HRW HW1
  go_wp2_with (go_at_call 298;(with_reducible refine HW2.out.mono ?_);rintro e1 w4 ⟨rfl,rfl⟩)
  (try simp only[Exit.inBlock,Exit.then]);first|(refine bodyPost_ret (results_none rfl _ _ _) rfl ?_)|(refine bodyPost_end (results_none rfl _ _ _) rfl ?_)
  exact⟨rfl,g,cap,HF.out⟩
end
end Go.Proofs.YtfkepfncgdlgoaaGreatDoor
