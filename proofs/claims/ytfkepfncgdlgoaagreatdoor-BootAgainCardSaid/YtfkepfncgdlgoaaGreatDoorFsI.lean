/- The walks of fs: node, set, fresh, own. The walks of fs: a sector, a block; clone of numbers. The walks of fs: block, write. The walks of fs: fill. -/
import Derived.Test.YtfkepfncgdlgoaaGreatDoorFsE
import Derived.Test.YtfkepfncgdlgoaaGreatDoorForest
import Derived.StillTailTactics
import Derived.Test.YtfkepfncgdlgoaaGreatDoorUnpk
namespace Go.Proofs.YtfkepfncgdlgoaaGreatDoor
open Go.RowKit Go.Maps
set_option linter.unusedVariables false
set_option linter.unusedSimpArgs false
set_option maxRecDepth 100000
set_option maxHeartbeats 1000000
section
variable {w0 w:World} {c:FC} {x:FM} {t:Nat} {y:TM}
attribute [local go_sem ↓] ld_ino st_ino2
theorem node_is (h:TX w0 w c x t y) {i:Nat}(hi:i<32) {n:Int}(hn:n=i+1):Calls Tryz.prog 116 #[.pointer (some ⟨t,0,none⟩),.int .i64 n] w fun e w'=>e=.returned (.agg (ndA (y.nd i)))∧Below w.heap.size w w':=by
 obtain⟨C,hC⟩:=h.nb
 have hal:=Go.Joins.below_alloc1 w (.cells (ndA nd0) 120)
 have c3:=(h.keep hal).c3
 have l1:=(hC.keep hal).ld hi
 have hr:=row_new w 120 (ndA nd0)
 have h1:=ip_one (h.ps i hi)
 have s1:=hr.st0 (cs:=ndA (y.nd i)) rfl (by rw[ndA_size];kernel_rfl) (ndA_one _ h1)
 have l3:=(hr.setRow (ndA (y.nd i))).ldV Tryz.underlying120 rfl (by rw[ndA_size];kernel_rfl)
 have HB:=Lib.hid (hal.trans ((Upd.setRow (w.alloc (.cells (ndA nd0) 120)) (b:=w.heap.size) (ndA (y.nd i)) (S:=fun k=>k=w.heap.size) rfl).toBelow hal.size (fun k hk=>by show ¬k=w.heap.size;omega)))
 have y1:IntKind.i64.wrap (n-1)=i:=by rw[IntWalk.i64_in _ (by omega)];omega
 have i32:(i:Int)<32:=by omega
 have i0:(0:Int)≤i:=by omega
 have hz:ndA nd0=#[.int .i64 0,.int .i64 0,.int .i64 0,.int .i64 0,.int .i64 0,.int .i64 0,.int .i64 0,.slice none 0 0]:=rfl
 rw[hz] at c3 l1 s1 l3 HB
 clear h hC hal hr h1 hz hn
 generalize ndA (y.nd i)=X at *
 go_enter Tryz.func116,Tryz.ntmps116
 go_wp2_with fail
 exact bodyPost_ret (v:=.agg X) (by rw[results_cell1 rfl];simp[asAddr,Result.andThen,l3]) rfl ⟨rfl,HB.out⟩
theorem set_is (h:TX w0 w c x t y) {i:Nat}(hi:i<32) {n:Int}(hn:n=i+1) {v:Nd}(hv:Ip (fun j=>fMut c x j∨tMut t y j∨(¬x.bs j∧j<w0.heap.size)) w v)(hk:y.nb<1000):Calls Tryz.prog 117 #[.pointer (some ⟨t,0,none⟩),.int .i64 n,.agg (ndA v)] w fun e w'=>e=.returned (.tuple #[])∧TX w0 w' c x t { y with nd:=ups1 y.nd i v,dy:=fun j=>if j=n then some () else y.dy j,nb:=y.nb+1 }∧Upd (tMut t y) w w':=by
 obtain⟨C,hC⟩:=h.nb
 have hal:=(Go.Joins.below_alloc1 w (.cells (ndA v) 120)).drew
 have hX:=h.keep hal
 have hCX:=hC.keep hal
 have hvX:=hv.upd (S:=fun _=>False) (Upd.below hal) (fun _ _ e=>e)
 have c3:=hX.c3
 have hr:=(row_new w 120 (ndA v)).drew
 have l1:=hr.ld0 Tryz.underlying120 rfl (by rw[ndA_size];kernel_rfl)
 obtain⟨s1,-⟩:=hCX.st hi (ip_one hv)
 have hY:=hX.node hCX hi hvX
 have c4:=hY.c4
 obtain⟨w3,hp,hm,hg⟩:=hY.db.put (T:=241) Tryz.underlying241 (k:=n) (WalkArith.wf_i64 (by omega)) (by show y.nb<maxLen;unfold maxLen;omega) ()
 change (Instr.mapUpdate 241 (.map (some y.db)) (.int .i64 n) (.bool true)).run Tryz.prog _=_ at hp
 have hZ:=hY.dirty hg hm
 have HZ:=Lib.hid hZ
 have HU:=Lib.hid (((Upd.below (S:=tMut t y) hal).trans (Upd.setRow _ _ (.inr (.inl rfl)))).trans (Upd.grown hg (.inr (.inr (.inl rfl)))))
 have y1:IntKind.i64.wrap (n-1)=i:=by rw[IntWalk.i64_in _ (by omega)];omega
 have i32:(i:Int)<32:=by omega
 have i0:(0:Int)≤i:=by omega
 obtain⟨X,hX'⟩:∃X,X=ndA v:=⟨_,rfl⟩
 rw[← hX'] at l1 s1 c3 c4 hp ⊢
 clear h hC hX hCX hv hvX hr hY hm hg hZ hn hX' hal
 go_enter Tryz.func117,Tryz.ntmps117
 go_upto_region 1 with fail
 generalize w.alloc (.cells X 120)=w1 at *
 go_still_tail 8,(by kernel_rfl)
 change wpList _ _ _ _ _ w1.drew
 generalize w1.drew=w2 at *
 clear l1 c3
 go_wp2_with fail
 exact bodyPost_end (results_none rfl _ _ _) rfl ⟨rfl,HZ.out,HU.out⟩
def gOn (G:Nat→Nat) (n:Nat):Nat→Nat:=ups G 16 32 (bitOn (hasT G) n)
theorem gOn_lone {G:Nat→Nat}(h:Lone1 G) (n:Nat):Lone1 (gOn G n):=by
 have hb:=bitOn_lt (h:=hasT G) (fun j=>h.lt _) n
 have e:∀j,(j<16∨48≤j)→gOn G n j=G j:=fun j hj=>by unfold gOn ups;rw[if_neg (by omega)]
 refine⟨by rw[e 0 (by omega)];exact h.t0,by rw[e 48 (by omega)];exact h.t1,by rw[e 96 (by omega)];exact h.t2,by rw[e 144 (by omega)];exact h.t3,fun j=>?_⟩
 unfold gOn ups
 split
 ·exact hb _
 ·exact h.lt j
theorem txR_put (c:FC) (y:TM)(h:Nat→Nat):putA (txR c y) 17 (setA h).toList=txR c { y with G:=ups y.G 16 32 h }:=by
 apply Array.ext_getElem?
 intro j
 have hl:(setA h).toList.length=32:=by simp[setA_size]
 rw[putA_get (by rw[hl,txR_size];omega),hl]
 by_cases h1:j=0
 ·subst h1;rw[if_neg (by omega),txR_lo,txR_lo]
 by_cases h2:j<193
 ·obtain⟨k,rfl⟩:∃k,j=1+k:=⟨j-1,by omega⟩
  rw[txR_G _ _ (by omega),txR_G _ _ (by omega)]
  show _=some (fV k (ups y.G 16 32 h k))
  unfold ups
  by_cases h3:16≤k∧k<16+32
  ·have e:fV k (h (k-16))=.int .u8 (h (k-16)):=by unfold fV;rw[if_neg (by omega)]
   have e2:1+k-17=k-16:=by omega
   rw[if_pos (by omega),if_pos h3,Array.getElem?_toList,e2,setA_get _ (by omega),e]
  ·rw[if_neg (by omega),if_neg h3]
 ·obtain⟨k,rfl⟩:∃k,j=193+k:=⟨j-193,by omega⟩
  rw[if_neg (by omega),txR_hi,txR_hi]
theorem gOn_off {G:Nat→Nat} (n:Nat) {j:Nat}(hj:j<16∨48≤j):gOn G n j=G j:=by unfold gOn ups;rw[if_neg (by omega)]
theorem gOn_fr {G:Nat→Nat}(h:Lone1 G)(hf:FR G) (n:Nat):FR (gOn G n):=by
 refine⟨fun k i _ _=>(gOn_lone h n).lt _,fun k hk h0=>?_⟩
 by_cases e:k=0
 ·subst e
  exact absurd h0 (gOn_lone h n).t0
 ·rw[gOn_off n (by omega)] at h0
  have:=hf.tr k hk h0
  rw[← this]
  congr 1
  funext j
  exact gOn_off n (by omega)
structure Fst (G:Nat→Nat) (n:Nat):Prop where
 lo:37≤n
 hi:n<256
 no:hasB (hasT G) n=false
 al:∀i,37≤i→i<n→hasB (hasT G) i=true
theorem TX.ldH (h:TX w0 w c x t y):(ldR 111 (.pointer (some ⟨t,17,none⟩))).run Tryz.prog w=.ok (.agg (setA (hasT y.G))) w:=by
 have:=h.row.ld (U:=111) (o:=17) (n:=32) (by rw[txR_size];decide) Tryz.underlying111 rfl (by kernel_rfl)
 have e:(txR c y).extract 17 (17+32)=setA (hasT y.G):=by
  apply Array.ext_getElem?
  intro j
  rw[Array.getElem?_extract]
  by_cases hj:j<32
  ·have e1:17+j=1+(16+j):=by omega
   have e2:fV (16+j) (y.G (16+j))=.int .u8 (y.G (16+j)):=by unfold fV;rw[if_neg (by omega)]
   rw[if_pos (by rw[txR_size];omega),e1,txR_G c y (by omega),setA_get _ hj,e2]
   rfl
  ·rw[if_neg (by omega),Array.getElem?_eq_none (by rw[setA_size];omega)]
 rw[e] at this
 exact this
theorem TX.stH (h:TX w0 w c x t y) (n:Nat):(stR 111 (.pointer (some ⟨t,17,none⟩)) (.agg (setA (bitOn (hasT y.G) n)))).run Tryz.prog w=.ok () (w.setRow t (putA (txR c y) 17 (setA (bitOn (hasT y.G) n)).toList))∧TX w0 (w.setRow t (putA (txR c y) 17 (setA (bitOn (hasT y.G) n)).toList)) c x t { y with G:=gOn y.G n }:=
 ⟨h.row.st (U:=111) (by rw[setA_size,txR_size];decide) (by rw[setA_size];kernel_rfl) (setA_one _),h.forest (txR_put c y _) (gOn_lone h.lone n) (gOn_fr h.lone h.fr n)⟩
attribute [local go_sem ↓] ld_set st_set ld_for
theorem fresh_is (h:TX w0 w c x t y) {n:Nat}(hn:Fst y.G n):Calls Tryz.prog 196 #[.pointer (some ⟨t,0,none⟩)] w fun e w'=>e=.returned (.int .i64 n)∧TX w0 w' c x t { y with G:=gOn y.G n }∧Upd (tMut t y) w w':=by
 have HH:=Lib.hid h
 have HN:=Lib.hid hn
 have HT:=Lib.hid (taken_is w.drew h.lone)
 have HS:Hid (∀wx,Below w.heap.size w wx→(ldR 115 (.pointer (some ⟨t,1,none⟩))).run Tryz.prog wx=.ok (.agg (forA y.G)) wx∧wx.cell? ⟨t,0,none⟩=some (.pointer (some ⟨c.F,0,none⟩))∧wx.cell? ⟨c.F,0,none⟩=some (.pointer (some ⟨c.D,0,none⟩))):=Lib.hid fun wx hx=>⟨(h.keep hx).ldF,(h.keep hx).c0,(h.keep hx).st.c0⟩
 have HZ:Hid (∀wx,Below w.heap.size w wx→Calls Tryz.prog 40 #[.pointer (some ⟨c.D,0,none⟩)] wx fun e w'=>e=.returned (.int .i64 256)∧wx=w'):=Lib.hid fun wx hx=>size_is (h.keep hx).st.dk
 have hS0:=Lib.hid (HS.out _ (Below.refl _ _).drew)
 have HB0:=Lib.hid (Below.refl w.heap.size w).drew
 clear h hn
 generalize forA y.G=A at *
 generalize hX:setA (hasT y.G)=X at *
 have HX:=Lib.hid hX
 clear hX
 go_enter Tryz.func196,Tryz.ntmps196
 go_upto_region 1 with fail
 go_region_held3 (fun wx=>(ldR 115 (.pointer (some ⟨t,1,none⟩))).run Tryz.prog wx=.ok (.agg A) wx∧wx.cell? ⟨t,0,none⟩=some (.pointer (some ⟨c.F,0,none⟩))∧wx.cell? ⟨c.F,0,none⟩=some (.pointer (some ⟨c.D,0,none⟩))) (first|assumption|exact hS0.out|exact hS1.out|exact hS2.out|fail)
  (first|(go_at_call 258;(with_reducible refine HT.out.mono ?_);rintro e1 w1 ⟨rfl,hb1⟩;have HB1:=Lib.hid (HB0.out.trans (hb1.mono HB0.out.size));have hS1:=Lib.hid (HS.out _ HB1.out);have HF:=Lib.hid (first_is w1 (h:=hasT y.G) (fun j=>HH.out.lone.lt _) HN.out.hi HN.out.lo HN.out.no HN.out.al);rw[HX.out] at HF;clear hb1)|(go_at_call 40;(with_reducible refine(HZ.out _ HB0.out).mono ?_);rintro e2 w2 ⟨rfl,rfl⟩)|(go_at_call 40;(with_reducible refine(HZ.out _ HB1.out).mono ?_);rintro e2 w2 ⟨rfl,rfl⟩)|(go_at_call 259;(with_reducible refine HF.out.mono ?_);rintro e3 w3 ⟨rfl,hb3⟩;have HB3:=Lib.hid (HB1.out.trans (hb3.mono HB1.out.size));have hS2:=Lib.hid (HS.out _ HB3.out);clear hb3))
 go_upto_region 6 with fail
 have hY:=HH.out.keep HB3.out.drew
 have hb4:=HB3.out
 clear HT HS HZ hS0 hS1 hS2 HB0 HB1 HB3 HF
 have l1:=hY.ldH
 rw[HX.out] at l1
 have HW:=Lib.hid (with_is w3.drew (h:=hasT y.G) (fun j=>HH.out.lone.lt _) HN.out.hi)
 rw[HX.out] at HW
 have HBd:=Lib.hid hb4.drew
 have HYY:=Lib.hid hY
 clear hY hb4
 have HWS:Hid (∀w5,Below w3.drew.heap.size w3.drew w5→(stR 111 (.pointer (some ⟨t,17,none⟩)) (.agg (setA (bitOn (hasT y.G) n)))).run Tryz.prog w5=.ok () (w5.setRow t (putA (txR c y) 17 (setA (bitOn (hasT y.G) n)).toList))∧TX w0 (w5.setRow t (putA (txR c y) 17 (setA (bitOn (hasT y.G) n)).toList)) c x t { y with G:=gOn y.G n }):=Lib.hid fun w5 hw=>(HYY.out.keep hw).stH n
 generalize setA (bitOn (hasT y.G) n)=Z at *
 go_region_law (go_simp;go_at_call 42;refine HW.out.mono ?_;rintro e5 w5 ⟨rfl,hb5⟩;obtain⟨st5,hT5⟩:=HWS.out w5 hb5;have HT5:=Lib.hid hT5;have HB5:=Lib.hid hb5;clear hb5 hT5)
 go_wp2_with fail
 go_ret
 exact⟨rfl,HT5.out,((Upd.below (HBd.out.trans (HB5.out.mono HBd.out.size)))).trans (Upd.setRow w5 _ (.inl rfl))⟩
theorem own0_is (h:TX w0 w c x t y) {n:Nat}(hn:Fst y.G n):Calls Tryz.prog 119 #[.pointer (some ⟨t,0,none⟩),.int .i64 0] w fun e w'=>e=.returned (.int .i64 n)∧TX w0 w' c x t { y with G:=gOn y.G n }∧Upd (tMut t y) w w':=by
 have HF:=Lib.hid (fresh_is h hn)
 clear h hn
 go_enter Tryz.func119,Tryz.ntmps119
 go_wp2_with (go_at_call 196;refine HF.out.mono ?_;rintro e1 w1 ⟨rfl,hT,hU⟩)
 go_ret
 exact⟨rfl,hT,hU⟩
theorem ownP_is (h:TX w0 w c x t y) {p:Int}(hp:p≠0):Calls Tryz.prog 119 #[.pointer (some ⟨t,0,none⟩),.int .i64 p] w fun e w'=>e=.returned (.int .i64 p)∧Below w.heap.size w w':=by
 have HS:=Lib.hid (shared_is w h.lone (.int .i64 p))
 have l1:=h.ldF
 have i0:(p == 0)=false:=beq_eq_false_iff_ne.2 hp
 clear h
 generalize forA y.G=A at *
 go_enter Tryz.func119,Tryz.ntmps119
 go_wp2_with (go_at_call 197;refine HS.out.mono ?_;rintro e1 w1 ⟨rfl,hb1⟩)
 go_ret
 exact⟨rfl,hb1⟩
end
def i64V (x:Int):Value:=.int .i64 x
theorem infoI8:(Tryz.prog.info? 3).map (fun i=>(i.zero,i.size,i.bytes))=some (some (.int .i64 0),1,8):=by kernel_rfl
theorem i64V_one (l:List Int):∀u∈l.map i64V,u.oneCell'=true:=by
 intro u hu
 obtain⟨x,_,rfl⟩:=List.mem_map.1 hu
 rfl
theorem cells_i64 {w:World} {b off:Nat} {l:List Int}(h:∀i,i<l.length→w.cell? ⟨b,off+i,none⟩=some (i64V (l.getD i 0))):∀j u,(l.map i64V)[j]?=some u→w.cell? ((⟨b,off,none⟩:Addr).add j)=some u:=by
 intro j u hj
 rw[Addr.add_lit]
 rw[List.getElem?_map] at hj
 have hlt:j<l.length:=by
  rcases Nat.lt_or_ge j l.length with h|h
  ·exact h
  ·rw[List.getElem?_eq_none h] at hj;cases hj
 rw[h j hlt]
 simp[hlt] at hj
 simp[List.getD,hlt,hj]
def CloneI (l:List Int) (w:World) (e:Ending) (w':World):Prop:=∃v',e=.returned v'∧w'.ownsRow w.heap.size 3 1 v' l.length (l.map i64V)∧Below w.heap.size w w'
theorem cloneI_is {w:World} {v:Value} {l:List Int}(h8:l.length≤1000000)(hm:At (Value.int .i64) 0 w v l):Calls Tryz.prog 127 #[v] w (CloneI l w):=by
 obtain⟨a,cap,rfl,hl,hcap,hm⟩:=hm
 have q22:∀(w:World) (a:Option Addr) (n c n' c':Nat),(binOp .eql 54 (.slice a n c) (.slice none n' c')).run Tryz.prog w=.ok (.bool a.isNone) w:=fun w a n c n' c'=>Lib.run_eql_slice_nil w _ _ a n c n' c' Tryz.underlying54
 cases a with
 | none=>
  have h0:l=[]:=by
   rcases hm with h|⟨b,off,h,_⟩
   ·exact h
   ·cases h
  subst h0
  clear hm
  go_enter Tryz.func127,Tryz.ntmps127
  go_wp2
  go_ret
  exact⟨_,rfl,World.ownsRow_nil _ _ _ _,Below.refl _ _⟩
 | some ad=>
  have hcl:∀j u,(l.map i64V)[j]?=some u→w.cell? (ad.add j)=some u:=by
   rcases hm with h|⟨b,off,hab,hlt,hc⟩
   ·intro j u hj
    subst h
    simp at hj
   ·simp only[Option.some.injEq] at hab
    subst hab
    exact fun j u hj=>cells_i64 hc j u hj
  have hlen:(l.map i64V).length=l.length*1:=by simp
  have hone:=i64V_one l
  obtain⟨n,hn⟩:∃n,n=l.length:=⟨_,rfl⟩
  unfold CloneI
  rw[← hn] at h8 hl hlen ⊢
  generalize l.map i64V=cs at *
  have HC:=Lib.hid hcl
  have HO:=Lib.hid hone
  have H8:=Lib.hid h8
  clear hm hn hcl hone h8
  obtain⟨i0,hi,hz0,hz1,hz2⟩:=info_parts infoI8
  go_enter Tryz.func127,Tryz.ntmps127
  go_wp2_with (at_builtin;go_loud (refine wpList_append_fresh _ rfl (.tmp 5) (.tmp 6) 54 rfl w.heap.size 3 i0 (.int .i64 0) 1 8 Tryz.underlying54 hi hz0 hz1 hz2 rfl (by decide) _ _ _ rfl (World.ownsRow_made w #[] 0 (Nat.le_refl _) (Nat.zero_le _) rfl) ad n _ cs rfl hlen (fun j u h=>by have:=HC.out j u h;rw[World.cell?_alloc_lt];exact this;exact World.block_lt_of_cell? w _ this) HO.out (by have:=H8.out;unfold maxLen;omega) (by have:=H8.out;omega) (by simp) ?_))
  intro v' w1 hown hgrow hfresh
  have hb1:Below w.heap.size w w1:=((Below.refl _ _).alloc (Nat.le_refl _) _).grown hgrow (by simp) (fun g hg=>by simp[Value.ownBlock] at hg;omega)
  clear hgrow hfresh
  rcases hown.2 with ⟨rfl,hn⟩|⟨g,cap',cur,rfl,hb,hg,hnc,hcm,hcs,htake⟩
  ·go_wp2
   go_ret
   exact⟨_,rfl,by simpa using hown,hb1⟩
  ·clear hb hg hnc hcm hcs htake
   go_wp2
   go_ret
   exact⟨_,rfl,by simpa using hown,hb1⟩
def fsec (x:FM) (p:Nat):List Int:=if (x.td p).isSome then x.tb p else sect x.f p
def tsec (x:FM) (y:TM) (p:Nat):List Int:=if (y.pt p).isSome then y.pby p else fsec x p
section
variable {w0 w:World} {c:FC} {x:FM} {t:Nat} {y:TM}
theorem fsec_len (h:FSt w c x) {p:Nat}(hp:p<256):(fsec x p).length=64:=by
 unfold fsec
 cases e:x.td p with
 | none=>simp only[Option.isSome_none,Bool.false_eq_true,if_false];exact sect_len h.dk.lf hp
 | some s=>simp only[Option.isSome_some,if_true];exact(h.tb p s e).2.1
theorem tsec_len (h:TX w0 w c x t y) {p:Nat}(hp:p<256):(tsec x y p).length=64:=by
 unfold tsec
 cases e:y.pt p with
 | none=>simp only[Option.isSome_none,Bool.false_eq_true,if_false];exact fsec_len h.fs hp
 | some s=>simp only[Option.isSome_some,if_true];exact(h.pv p s e).2.1
def NewB (l:List Int) (w:World) (v:Value) (w':World):Prop:=OB w.heap.size w' v l∧Below w.heap.size w w'
theorem sectorF_is (h:FSt w c x) {p:Nat}(hp:p<256) {n:Int}(hn:n=p):Calls Tryz.prog 261 #[.pointer (some ⟨c.F,0,none⟩),.int .i64 n] w fun e w'=>∃v,e=.returned (.tuple #[v,.int .i64 0])∧NewB (fsec x p) w v w':=by
 subst hn
 have c5:=h.c5
 have c0:=h.c0
 have l1:=h.td.look_ok (T:=134) Tryz.underlying134 (zeroS w) (k:=p) (WalkArith.wf_i64 (by omega))
 have HR:=Lib.hid (read_is h.dk hp)
 have HT:=Lib.hid (fun s (e:x.td p=some s)=>h.tb p s e)
 have HL:=Lib.hid h.dk.lf
 unfold fsec NewB OB
 clear h
 cases e:x.td p with
 | none=>
  rw[e] at l1
  change _=Result.ok (Value.tuple #[.slice none 0 0,.bool false]) w at l1
  simp only[Option.isSome_none,Bool.false_eq_true,if_false]
  have hl:=sect_len HL.out hp
  generalize sect x.f p=X at *
  clear e HT
  go_enter Tryz.func261,Tryz.ntmps261
  go_wp2_with (go_at_call 47;refine HR.out.mono ?_;rintro e1 w1 ⟨v1,rfl,ho,hb⟩)
  go_ret2
  rw[hl]
  exact⟨_,rfl,ho,hb⟩
 | some s=>
  obtain⟨h1,h2,-⟩:=HT.out s e
  rw[e] at l1
  change _=Result.ok (Value.tuple #[encS (some s),.bool true]) w at l1
  simp only[Option.isSome_some,if_true]
  have HC:=Lib.hid (cloneB_is (by omega) h1.a)
  generalize encS (some s)=V at *
  generalize x.tb p=X at *
  clear e HT HR h1 h2
  go_enter Tryz.func261,Tryz.ntmps261
  go_wp2_with (go_at_call 105;refine HC.out.mono ?_;rintro e1 w1 ⟨v1,rfl,ho,hb⟩)
  go_ret2
  exact⟨_,rfl,ho,hb⟩
theorem sectorT_is (h:TX w0 w c x t y) {p:Nat}(hp:p<256) {n:Int}(hn:n=p):Calls Tryz.prog 210 #[.pointer (some ⟨t,0,none⟩),.int .i64 n] w fun e w'=>∃v,e=.returned v∧NewB (tsec x y p) w v w':=by
 subst hn
 have c5:=h.c5
 have c0:=h.c0
 have l1:=h.pb.look_ok (T:=134) Tryz.underlying134 (zeroS w) (k:=p) (WalkArith.wf_i64 (by omega))
 have HR:=Lib.hid (sectorF_is h.st hp (n:=p) rfl)
 have HT:=Lib.hid (fun s (e:y.pt p=some s)=>h.pv p s e)
 unfold tsec
 clear h
 cases e:y.pt p with
 | none=>
  rw[e] at l1
  change _=Result.ok (Value.tuple #[.slice none 0 0,.bool false]) w at l1
  simp only[Option.isSome_none,Bool.false_eq_true,if_false]
  generalize fsec x p=X at *
  clear e HT
  go_enter Tryz.func210,Tryz.ntmps210
  go_wp2_with (go_at_call 261;refine HR.out.mono ?_;rintro e1 w1 ⟨v1,rfl,hq⟩)
  go_ret
  exact⟨_,rfl,hq⟩
 | some s=>
  obtain⟨h1,h2,-⟩:=HT.out s e
  rw[e] at l1
  change _=Result.ok (Value.tuple #[encS (some s),.bool true]) w at l1
  simp only[Option.isSome_some,if_true]
  have HC:=Lib.hid (cloneB_is (by omega) h1.a)
  generalize encS (some s)=V at *
  generalize y.pby p=X at *
  clear e HT HR h1 h2
  go_enter Tryz.func210,Tryz.ntmps210
  go_wp2_with (go_at_call 105;refine HC.out.mono ?_;rintro e1 w1 ⟨v1,rfl,ho,hb⟩)
  go_ret
  exact⟨_,rfl,ho,hb⟩
end
def bsec (x:FM) (y:TM) (ps:List Int) (k:Nat):List Int:=if ps.getD k 0=0 then zeros 64 else tsec x y (ps.getD k 0).toNat
def Own (G:Nat→Nat) (p:Int) (q:Nat) (G':Nat→Nat):Prop:=(p=0∧Fst G q∧G'=gOn G q)∨(p≠0∧p=q∧q<256∧G'=G)
theorem Own.lt {G G':Nat→Nat} {p:Int} {q:Nat}(h:Own G p q G'):q<256:=by
 rcases h with ⟨_,h,_⟩|⟨_,_,h,_⟩
 ·exact h.hi
 ·exact h
section
variable {w0 w:World} {c:FC} {x:FM} {t:Nat} {y:TM}
theorem own_is (h:TX w0 w c x t y) {p:Int} {q:Nat} {G':Nat→Nat}(ho:Own y.G p q G'):Calls Tryz.prog 119 #[.pointer (some ⟨t,0,none⟩),.int .i64 p] w fun e w'=>e=.returned (.int .i64 q)∧TX w0 w' c x t { y with G:=G' }∧Upd (tMut t y) w w':=by
 rcases ho with ⟨rfl,h1,rfl⟩|⟨h1,h2,_,rfl⟩
 ·exact own0_is h h1
 ·refine(ownP_is h h1).mono ?_
  rintro e w' ⟨rfl,hb⟩
  exact⟨by rw[h2],h.keep hb,Upd.below hb⟩
attribute [local go_sem ↓] mkB_eq
theorem block_is (h:TX w0 w c x t y) {n:Nd}(hn:At (Value.int .i64) 0 w n.pv n.ps)(hp:∀p∈n.ps,0≤p∧p<256) (k:Nat)(hk:k<1000):Calls Tryz.prog 129 #[.pointer (some ⟨t,0,none⟩),.agg (ndA n),.int .i64 k] w fun e w'=>∃v,e=.returned v∧NewB (bsec x y n.ps k) w v w':=by
 have hal:=Go.Joins.below_alloc1 w (.cells (ndA n) 120)
 have hX:=h.keep hal
 have hr:=row_new w 120 (ndA n)
 have c7:(w.alloc (.cells (ndA n) 120)).cell? ⟨w.heap.size,7,none⟩=some n.pv:=by rw[hr.cell];rfl
 have hA:=hn.keep hal
 obtain⟨a,cap,hpv,hlc,hcm,hcl⟩:=hA
 have hcm':(cap:Int)≤9223372036854775807:=by unfold maxLen at hcm;omega
 rw[hpv] at c7
 have mk64:=mkB64 (w.alloc (.cells (ndA n) 120))
 have HNB:Hid (NewB (zeros 64) w (.slice (some ⟨(w.alloc (.cells (ndA n) 120)).heap.size,0,none⟩) 64 64) ((w.alloc (.cells (ndA n) 120)).alloc (.cells ((zeros 64).map u8V).toArray 5))):=Lib.hid ⟨ob_of_bk (bk_new _ _) hal.size (by decide) rfl,below_al hal⟩
 have HAL:=Lib.hid hal
 have k0:(0:Int)≤k:=by omega
 unfold bsec
 by_cases hkl:k<n.ps.length
 ·obtain⟨b,off,rfl,hlt,hc⟩:∃b off,a=some ⟨b,off,none⟩∧b<(w.alloc (.cells (ndA n) 120)).heap.size∧∀i,i<n.ps.length→(w.alloc (.cells (ndA n) 120)).cell? ⟨b,off+i,none⟩=some (.int .i64 (n.ps.getD i 0)):=by
   rcases hcl with e|e
   ·rw[e] at hkl;simp at hkl
   ·exact e
  have ck:=hc k hkl
  have hpk:=hp (n.ps.getD k 0) (by rw[List.getD_eq_getElem?_getD,List.getElem?_eq_getElem hkl];exact List.getElem_mem hkl)
  have i1:(k:Int)<n.ps.length:=by omega
  have i2:¬(n.ps.length:Int)≤k:=by omega
  obtain⟨q,hq⟩:∃q:Nat,n.ps.getD k 0=q:=⟨(n.ps.getD k 0).toNat,by omega⟩
  rw[hq] at ck hpk ⊢
  have hq256:q<256:=by omega
  have HS:=Lib.hid (sectorT_is hX hq256 (n:=(q:Int)) rfl)
  generalize n.ps.length=L at *
  clear h hX hn hp hpv hcl hc hq hal hr hcm hpk
  generalize ndA n=A at *
  by_cases h0:(q:Int)=0
  ·have i3:((q:Int) == 0)=true:=beq_iff_eq.2 h0
   rw[if_pos h0]
   clear HS
   go_enter Tryz.func129,Tryz.ntmps129
   go_wp2_with fail
   go_ret
   exact⟨_,rfl,by have:=HNB.out;simpa using this⟩
  ·have i3:((q:Int) == 0)=false:=beq_eq_false_iff_ne.2 h0
   rw[if_neg h0,Int.toNat_natCast]
   generalize tsec x y q=X at *
   go_enter Tryz.func129,Tryz.ntmps129
   go_wp2_with (go_at_call 210;refine HS.out.mono ?_;rintro e1 w1 ⟨v1,rfl,h1,h2⟩)
   go_ret
   exact⟨_,rfl,h1.base HAL.out.size,HAL.out.trans (h2.mono HAL.out.size)⟩
 ·have e0:n.ps.getD k 0=0:=by rw[List.getD_eq_getElem?_getD,List.getElem?_eq_none (by omega)];rfl
  have i2:(n.ps.length:Int)≤k:=by omega
  rw[if_pos e0]
  generalize n.ps.length=L at *
  clear h hX hn hp hpv hcl e0 hal hr hcm
  generalize ndA n=A at *
  go_enter Tryz.func129,Tryz.ntmps129
  go_wp2_with fail
  go_ret
  exact⟨_,rfl,by have:=HNB.out;simpa using this⟩
theorem own_set {w:World} {B g n cap:Nat} {l:List Int}(h:w.ownsRow B 3 1 (.slice (some ⟨g,0,none⟩) n cap) n (l.map i64V))(hl:l.length=n) {k:Nat}(hk:k<n) (q:Int) :
  w.cell? ⟨g,k,none⟩=some (.int .i64 (l.getD k 0))∧w.frozen? ⟨g,k,none⟩=false∧B≤g∧g<w.heap.size∧At (Value.int .i64) 0 (w.setCell ⟨g,k,none⟩ (.int .i64 q)) (.slice (some ⟨g,0,none⟩) n cap) (l.set k q):=by
 rcases h.2 with ⟨e,h0⟩|⟨g',c',cur,e,hB,hg,h1,h2,h3,h4⟩
 ·omega
 ·simp only[Value.slice.injEq,Option.some.injEq,Addr.mk.injEq,true_and,and_true] at e
  obtain⟨rfl,rfl⟩:=e
  have hr:Row w g 3 cur:=hg
  have hc:∀i,i<n→w.cell? ⟨g,i,none⟩=some (.int .i64 (l.getD i 0)):=fun i hi=>by
   rw[hr.cell]
   have e:(l.map i64V)[i]?=some (.int .i64 (l.getD i 0)):=by rw[List.getElem?_map,List.getElem?_eq_getElem (by omega)];simp[i64V,hl,hi]
   rw[← h4,Nat.mul_one,List.getElem?_take,if_pos hi,Array.getElem?_toList] at e
   exact e
  refine⟨hc k hk,hr.fz k,hB,hr.lt,_,cap,by rw[List.length_set,hl],by rw[List.length_set];omega,h2,.inr ⟨g,0,rfl,by simpa [World.setCell] using hr.lt,fun i hi=>?_⟩⟩
  rw[List.length_set] at hi
  rw[Nat.zero_add]
  by_cases e:i=k
  ·subst e
   rw[set_same (hc i hk)]
   simp[hi]
  ·rw[set_off e (hc i (by omega))]
   simp[List.getD_eq_getElem?_getD,List.getElem?_set_ne (fun q:k=i=>e q.symm)]
def WroteT (w0 w:World) (c:FC) (x:FM) (t:Nat) (y:TM) (nbk:Nat) (n:Nd) (k q:Nat) (G':Nat→Nat) (s:SL) (l:List Int) (w':World):Prop:=∃v',
  TX w0 w' c x t { y with G:=G',pt:=fun j=>if j=(q:Int) then some s else y.pt j,np:=y.np+1,pby:=fun j=>if j=(q:Int) then l else y.pby j } ∧
  Row w' nbk 120 (ndA { n with pv:=v',ps:=n.ps.set k q })∧At (Value.int .i64) 0 w' v' (n.ps.set k q)∧(∀j,v'.ownBlock=some j→w.heap.size≤j∧j<w'.heap.size)∧Upd (fun j=>tMut t y j∨j=nbk) w w'
theorem wrote_is (h:TX w0 w c x t y) {nbk:Nat} {n:Nd}(hr:Row w nbk 120 (ndA n))(hnm:¬tMut t y nbk)(hnb:w0.heap.size≤nbk)(hn:At (Value.int .i64) 0 w n.pv n.ps) {k:Nat}(hk:k<n.ps.length)(hl:n.ps.length≤1000) {q:Nat} {G':Nat→Nat}(ho:Own y.G (n.ps.getD k 0) q G')
  (hfar:(∀i,i<32→(y.nd i).pv.ownBlock≠some nbk)∧∀p s,y.pt p=some s→s.1≠nbk)
  {s:SL} {l:List Int} (hs:Im (fun j=>fMut c x j∨tMut t y j) w (encS (some s)) l) (hs64:l.length=64) (hsB:w0.heap.size≤s.1) (hsn:s.1≠nbk) (hnp:y.np<1000) :
  Calls Tryz.prog 130 #[.pointer (some ⟨t,0,none⟩),.pointer (some ⟨nbk,0,none⟩),.int .i64 k,encS (some s)] w fun e w'=>e=.returned (.tuple #[])∧WroteT w0 w c x t y nbk n k q G' s l w':=by
 have c7:w.cell? ⟨nbk,7,none⟩=some n.pv:=by rw[hr.cell];rfl
 have HCL:=Lib.hid (cloneI_is (by omega) hn)
 have HH:=Lib.hid h
 have HR:=Lib.hid hr
 have HO:=Lib.hid ho
 have HX:=Lib.hid (And.intro hnm (And.intro hnb (And.intro hfar (And.intro hs (And.intro hs64 (And.intro hsB (And.intro hsn hnp)))))))
 have HL:=Lib.hid (And.intro hk hl)
 have k0:(0:Int)≤k:=by omega
 obtain⟨V,hV⟩:∃V,V=encS (some s):=⟨_,rfl⟩
 rw[← hV]
 have HV:=Lib.hid hV
 clear h hr ho hn hnm hnb hfar hs hs64 hsB hsn hnp hV
 go_enter Tryz.func130,Tryz.ntmps130
 go_upto_region 1 with (go_at_call 127;refine HCL.out.mono ?_;rintro e1 w1 ⟨v1,rfl,ho1,hb1⟩;obtain⟨p1,cp1,rfl⟩:=own_form ho1;have z1:=(HR.out.keep hb1).fz 7;have cc1:=((HR.out.keep hb1).cell 7))
 obtain⟨g,rfl,hg0,hg1,hg2,hg3⟩:=own_block ho1 (by have:=HL.out.1;omega)
 obtain⟨u1,u2,-,-,-⟩:=own_set ho1 rfl HL.out.1 q
 have HB1:=Lib.hid hb1
 have hgn:g≠nbk:=fun e=>by have:=HR.out.lt;omega
 have hng:nbk≠g:=fun e=>hgn e.symm
 have hT2:TX w0 (w1.setCell ⟨nbk,7,none⟩ (.slice (some ⟨g,0,none⟩) n.ps.length cp1)) c x t y:=(HH.out.keep hb1).far (Upd.set w1 (b:=nbk) (i:=7) _ (S:=fun j=>j=nbk) rfl) (fun j e=>by subst e;exact⟨HX.out.2.1,HX.out.1,HX.out.2.2.1.1,HX.out.2.2.1.2⟩)
 have n7:(w1.setCell ⟨nbk,7,none⟩ (.slice (some ⟨g,0,none⟩) n.ps.length cp1)).cell? ⟨nbk,7,none⟩=some (.slice (some ⟨g,0,none⟩) n.ps.length cp1):=set_same cc1
 have g7:(w1.setCell ⟨nbk,7,none⟩ (.slice (some ⟨g,0,none⟩) n.ps.length cp1)).cell? ⟨g,k,none⟩=some (.int .i64 (n.ps.getD k 0)):=set_blk hgn u1
 have ho2:(w1.setCell ⟨nbk,7,none⟩ (.slice (some ⟨g,0,none⟩) n.ps.length cp1)).ownsRow w.heap.size 3 1 (.slice (some ⟨g,0,none⟩) n.ps.length cp1) n.ps.length (n.ps.map i64V):=(Upd.set w1 (b:=nbk) (i:=7) _ (S:=fun j=>j=nbk) rfl).owns ho1 (fun j e q=>by injection e with e;exact hgn (e.trans q))
 have hr2:Row (w1.setCell ⟨nbk,7,none⟩ (.slice (some ⟨g,0,none⟩) n.ps.length cp1)) nbk 120 (ndA { n with pv:=.slice (some ⟨g,0,none⟩) n.ps.length cp1,ps:=n.ps.set k q }):=by
  have hrr:=HR.out.keep hb1
  rw[hrr.setCell]
  exact hrr.setRow _
 have HU2:Hid (Upd (fun j=>tMut t y j∨j=nbk) w (w1.setCell ⟨nbk,7,none⟩ (.slice (some ⟨g,0,none⟩) n.ps.length cp1))):=Lib.hid ((Upd.below hb1).trans (Upd.set w1 _ (.inr rfl)))
 have HT2D:=Lib.hid (hT2.keep (Below.refl _ _).drew)
 have HO2:=Lib.hid ho2
 have HR2:=Lib.hid hr2
 have i1:(k:Int)<n.ps.length:=by have:=HL.out.1;omega
 have hmx:(cp1:Int)≤9223372036854775807:=by unfold maxLen at hg3;omega
 have hszg:g<(w1.setCell ⟨nbk,7,none⟩ (.slice (some ⟨g,0,none⟩) n.ps.length cp1)).heap.size:=by simpa [World.setCell] using hg1
 have HSZ:=Lib.hid (And.intro hg0 hszg)
 have zg:(w1.setCell ⟨nbk,7,none⟩ (.slice (some ⟨g,0,none⟩) n.ps.length cp1)).frozen? ⟨g,k,none⟩=false:=by rw[World.frozen?_setCell];exact u2
 clear hT2 ho2 hr2 u1 u2 ho1 hb1 hg0 hg1 hg2 hg3 z1 cc1 c7 hszg
 generalize w1.setCell ⟨nbk,7,none⟩ (.slice (some ⟨g,0,none⟩) n.ps.length cp1)=w2 at *
 have HOW:=Lib.hid (own_is HT2D.out HO.out)
 have n7d:w2.drew.cell? ⟨nbk,7,none⟩=some (.slice (some ⟨g,0,none⟩) n.ps.length cp1):=n7
 have g7d:w2.drew.cell? ⟨g,k,none⟩=some (.int .i64 (n.ps.getD k 0)):=g7
 have HTM:Hid (∀j,tMut t y j→j<w.heap.size):=Lib.hid (fun j hj=>(HH.out.mlt hj).2)
 have HGM:Hid (¬tMut t y g):=Lib.hid (fun e=>by have:=HTM.out g e;have:=HSZ.out.1;omega)
 generalize n.ps.getD k 0=pk at *
 have HNL:Hid (nbk<w2.drew.heap.size):=Lib.hid HR2.out.lt
 have HZG:Hid (w2.drew.frozen? ⟨g,k,none⟩=false):=Lib.hid zg
 clear n7 g7 zg
 go_region_law (go_simp;go_at_call 119;refine HOW.out.mono ?_;rintro e3 w3 ⟨rfl,hT3,hu3⟩;have s3:=(hu3.cell (b:=g) (o:=k) HSZ.out.2 HGM.out).trans g7d;have z3:=(hu3.frozen (b:=g) (o:=k) HSZ.out.2 HGM.out).trans HZG.out;have n3:=(hu3.cell (b:=nbk) (o:=7) HNL.out HX.out.1).trans n7d;have HT3:=Lib.hid hT3;have HU3:=Lib.hid hu3;clear hT3 hu3)
 all_goals
  have hT4:=HT3.out.far (Upd.set w3 (b:=g) (i:=k) (.int .i64 (q:Int)) (S:=fun j=>j=g) rfl) (fun j e=>by
      subst e
      have z0:=HSZ.out.1
      exact⟨Nat.le_trans HH.out.bl.size z0,HGM.out,fun i hi e=>by have:=(HH.out.ps i hi).lt j e;omega,fun p s' e=>by have:=HH.out.ltP e;omega⟩)
  have m3:(w3.setCell ⟨g,k,none⟩ (.int .i64 (q:Int))).cell? ⟨nbk,7,none⟩=some (.slice (some ⟨g,0,none⟩) n.ps.length cp1):=set_blk hng n3
  have m4:(w3.setCell ⟨g,k,none⟩ (.int .i64 (q:Int))).cell? ⟨g,k,none⟩=some (.int .i64 (q:Int)):=set_same s3
  have hr4:Row (w3.setCell ⟨g,k,none⟩ (.int .i64 (q:Int))) nbk 120 (ndA { n with pv:=.slice (some ⟨g,0,none⟩) n.ps.length cp1,ps:=n.ps.set k q }):=((Row.drew HR2.out).upd HU3.out HX.out.1).upd (Upd.set w3 (b:=g) (i:=k) (.int .i64 (q:Int)) (S:=fun j=>j=g) rfl) hng
  have ha4:=(own_set (HU3.out.owns (owns_keep HO2.out (Below.refl _ _).drew) (fun j e q=>by injection e with e;subst e;exact HGM.out q)) (by rfl) HL.out.1 (q:Int)).2.2.2.2
  have HU4:Hid (Upd (fun j=>tMut t y j∨j=nbk) w (w3.setCell ⟨g,k,none⟩ (.int .i64 (q:Int)))):=Lib.hid (((HU2.out.trans (Upd.drew w2)).trans (HU3.out.mono (fun _ _ e=>.inl e))).trans' (Upd.set w3 (b:=g) (i:=k) (.int .i64 (q:Int)) (S:=fun j=>j=g) rfl) (fun j hj e=>by have:=HSZ.out.1;omega))
  have HZ4:Hid (w2.drew.heap.size≤(w3.setCell ⟨g,k,none⟩ (.int .i64 (q:Int))).heap.size):=Lib.hid (by have:=HU3.out.size;simpa [World.setCell] using this)
  clear n3 s3 z3 HT3 HU3 n7d g7d HOW
  generalize w3.setCell ⟨g,k,none⟩ (.int .i64 (q:Int))=w4 at *
  have hT5:=hT4.keep (Below.refl _ _).drew
  have t5:=hT5.c5
  obtain⟨w6,hput,hm6,hg6⟩:=hT5.pb.put (T:=134) Tryz.underlying134 (k:=(q:Int)) (WalkArith.wf_i64 (by have:=HO.out.lt;omega)) (by show y.np<maxLen;have:=HX.out.2.2.2.2.2.2.2;unfold maxLen;omega) s
  change (Instr.mapUpdate 134 (.map (some y.pb)) (.int .i64 (q:Int)) (encS (some s))).run Tryz.prog _=_ at hput
  have hT6:=hT5.puts (fb:=fun j=>if j=(q:Int) then l else y.pby j) hg6 hm6 (fun p s' e=>by
      by_cases e2:p=(q:Int)
      · rw[if_pos e2] at e
        injection e with e
        subst e
        right
        rw[if_pos e2]
        refine⟨HX.out.2.2.2.1.upd HU4.out (fun j e4 q4=>?_) |>.upd (S:=fun _=>False) (Upd.drew w4) (fun _ _ e=>e),HX.out.2.2.2.2.1,HX.out.2.2.2.2.2.1⟩
        rcases q4 with q4|q4
        · exact HX.out.2.2.2.1.n j e4 (.inr q4)
        · obtain⟨b,o,n1,k1⟩:=s
          simp only[encS,Value.ownBlock,Option.some.injEq] at e4
          exact HX.out.2.2.2.2.2.2.1 (e4.trans q4)
      · rw[if_neg e2] at e
        left
        exact⟨e,if_neg e2⟩)
  have HT6:=Lib.hid hT6
  have hnp:nbk≠y.pb:=fun e=>HX.out.1 (.inr (.inr (.inr (.inl e))))
  have hr6:=(Row.drew hr4).upd (Upd.grown hg6 (S:=fun j=>j=y.pb) rfl) hnp
  have hgp:g≠y.pb:=fun e=>HGM.out (.inr (.inr (.inr (.inl e))))
  have ha6:=(ha4.keep (Below.refl _ _).drew).upd8 (Upd.grown hg6 (S:=fun j=>j=y.pb) rfl) (fun j e=>by injection e with e;subst e;exact hgp)
  have HF6:=Lib.hid (And.intro hr6 (And.intro ha6 ((HU4.out.trans (Upd.drew w4)).trans (Upd.grown hg6 (S:=fun j=>tMut t y j∨j=nbk) (.inl (.inr (.inr (.inr (.inl rfl)))))))))
  have HGZ:Hid (g<w6.heap.size):=Lib.hid (Nat.lt_of_lt_of_le HSZ.out.2 (Nat.le_trans HZ4.out hg6.size))
  have n3d:w4.drew.cell? ⟨nbk,7,none⟩=some (.slice (some ⟨g,0,none⟩) n.ps.length cp1):=m3
  have n4d:w4.drew.cell? ⟨g,k,none⟩=some (.int .i64 (q:Int)):=m4
  rw[← HV.out] at hput
  clear hT4 hT5 hm6 hg6 hT6 hr4 ha4 hr6 ha6 m3 m4 hnp hgp HU4
  go_upto_region 2 with fail
  go_still_tail 12,(by kernel_rfl)
  change wpList _ _ _ _ _ w4.drew
  go_wp2_with fail
  exact bodyPost_end (results_none rfl _ _ _) rfl ⟨rfl,.slice (some ⟨g,0,none⟩) n.ps.length cp1,HT6.out,HF6.out.1,HF6.out.2.1,fun j e=>by injection e with e;subst e;exact⟨HSZ.out.1,HGZ.out⟩,HF6.out.2.2⟩
end
theorem blocks_is (w:World) (n:Nat)(h0:1≤n)(h1:n≤100000):Calls Tryz.prog 128 #[.int .i64 n] w fun e w'=>e=.returned (.int .i64 ((n-1) / 64+1:Nat))∧w=w':=by
 have i0:¬(n:Int)≤0:=by omega
 have i1:(0:Int)<n:=by omega
 have y1:IntKind.i64.wrap ((n:Int)-1)=n-1:=IntWalk.i64_in _ (by omega)
 have q0:((n:Int)-1).tdiv 64=((n-1) / 64:Nat):=by rw[Int.tdiv_eq_ediv_of_nonneg (by omega)];omega
 have q1:((n:Int)-1) / 64=((n-1) / 64:Nat):=by omega
 have y2:IntKind.i64.wrap (((n-1) / 64:Nat):Int)=((n-1) / 64:Nat):=IntWalk.i64_in _ (by omega)
 have y3:IntKind.i64.wrap ((((n-1) / 64:Nat):Int)+1)=((n-1) / 64:Nat)+1:=IntWalk.i64_in _ (by omega)
 generalize (n-1) / 64=k at *
 have hk1:((k+1:Nat):Int)=(k:Int)+1:=by omega
 rw[hk1]
 clear hk1
 go_enter Tryz.func128,Tryz.ntmps128
 go_wp2_with fail
 go_ret
 exact⟨rfl,rfl⟩
theorem run_copyZ (w:World) (g L c:Nat) (a:Option Addr):(copyB #[.slice (some ⟨g,0,none⟩) 64 64,.slice a 0 c]).run Tryz.prog w=.ok (.int .i64 0) w:=by
 cases a <;> kernel_rfl
theorem copy64 {w:World} {g:Nat}(hg:BK w g (zeros 64)) {a:Option Addr} {n c:Nat} {z:List Int}(hz:At (Value.int .u8) 0 w (.slice a n c) z)(hn:z.length≤64) :
  ∃w',(copyB #[.slice (some ⟨g,0,none⟩) 64 64,.slice a n c]).run Tryz.prog w=.ok (.int .i64 n) w'∧BK w' g (splice (zeros 64) 0 z)∧Upd (fun k=>k=g) w w':=by
 obtain⟨a',cap,e,h1,h2,h3⟩:=hz
 injection e with e1 e2 e3
 subst e1 e2 e3
 by_cases e0:z=[]
 ·subst e0
  exact⟨w,run_copyZ w g 64 c a,by simpa [splice] using hg,Upd.refl _ _⟩
 ·obtain⟨b,off,rfl,hlt,hc⟩:=h3.resolve_left e0
  exact⟨_,run_copyB hg (by rw[show z.length.min 64=min z.length 64 from rfl,Nat.min_eq_left hn]) hc (by simp[zeros];omega),hg.setRow _,Upd.setRow w _ rfl⟩
end Go.Proofs.YtfkepfncgdlgoaaGreatDoor
