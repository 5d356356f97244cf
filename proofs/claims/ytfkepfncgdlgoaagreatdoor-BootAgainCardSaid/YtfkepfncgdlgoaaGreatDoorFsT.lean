/- The walk of fs's keep: what a call put becomes the file system's. The walk of fs's keep. -/
import Derived.Test.YtfkepfncgdlgoaaGreatDoorFsR
import Derived.Test.YtfkepfncgdlgoaaGreatDoorStart
import Derived.Deep.RegionHeld3
import Derived.Test.YtfkepfncgdlgoaaGreatDoorFmtP
namespace Go.Proofs.YtfkepfncgdlgoaaGreatDoor
open Go.RowKit Go.Maps
set_option linter.unusedVariables false
set_option linter.unusedSimpArgs false
set_option maxRecDepth 100000
set_option maxHeartbeats 2000000
def keptM (x:FM) (y:TM) (lo hi:Nat):FM:={ x with G:=y.G,N:=y.N,cap:=y.cap,nd:=y.nd,na:=x.na+y.np,td:=fun p=>if (y.pt p).isSome then y.pt p else x.td p,tb:=fun p=>if (y.pt p).isSome then y.pby p else x.tb p,bs:=fun j=>x.bs j∨(lo≤j∧j<hi) }
theorem keptM_sec (x:FM) (y:TM) (lo hi p:Nat):fsec (keptM x y lo hi) p=tsec x y p:=by
 unfold fsec tsec keptM
 cases e:y.pt p with
 | none=>simp only[e,Option.isSome_none,Bool.false_eq_true,if_false];rfl
 | some s=>simp only[e,Option.isSome_some,if_true]
theorem keptM_fst {w0 w w':World} {c:FC} {x:FM} {t:Nat} {y:TM}(h:TX w0 w c x t y) {A:Array Value}(hr:Row w' c.F 137 A)(hA:A=fsR c (keptM x y w0.heap.size w'.heap.size))(hm:CMap cS w' x.a (x.na+y.np) (fun p=>if (y.pt p).isSome then y.pt p else x.td p))(hu:Upd (fun j=>j=c.F∨j=x.a) w w'):FSt w' c (keptM x y w0.heap.size w'.heap.size):=by
 subst hA
 have st:=h.st
 obtain⟨C,hC⟩:=h.nb
 obtain⟨m1,m2,m3,m4,m5,m6⟩:=st.n1
 have bF:=h.fs.lt _ (h.fs.bm _ (.inl rfl))
 have ba:=h.fs.lt _ (h.fs.bm _ (.inr (.inl rfl)))
 have hsz:=h.bl.size
 have hsz':=hu.size
 have b0:=h.b0
 have dkF:∀j,fDk c x j→¬(j=c.F∨j=x.a):=fun j hj e=>by
  rcases e with rfl|rfl
  ·exact st.n2.1 hj
  ·exact st.n2.2.1 hj
 refine⟨hr,h.lone,h.fr,st.lg.upd hu (fun e=>by rcases e with e|e;exact m3 e.symm;exact m5 e.symm),⟨C,hC.upd hu (fun e=>by rcases e with e|e <;> omega)⟩,h.cp,fun i hi=>?_,hm,fun p s e=>?_,st.hd.upd hu (fun e=>by rcases e with e|e;exact m2 e.symm;exact m4 e.symm),?_,fun e=>?_,st.n1,st.n2,fun j e=>.inl (h.fs.bm j e),.inr ⟨b0.2.1,Nat.lt_of_lt_of_le hC.row.lt hu.size⟩,fun j e=>?_,hu.owns st.wo (fun g e=>dkF g (.inr (.inr (.inr e))))⟩
 ·have hp:=h.ps i hi
  refine⟨(⟨(hp.upd hu (fun j e q=>hp.n j e (.inl (by rcases q with q|q;exact .inl q;exact .inr (.inl q))))).a,fun j e q=>hp.n j e (.inl q),fun j e=>Nat.lt_of_lt_of_le (hp.lt j e) hu.size⟩:Ip _ _ _),fun j e=>?_⟩
  by_cases q:x.bs j
  ·exact .inl q
  ·refine .inr ⟨?_,Nat.lt_of_lt_of_le (hp.lt j e) hu.size⟩
   rcases Nat.lt_or_ge j w0.heap.size with l|l
   ·exact absurd (.inr (.inr ⟨q,l⟩)) (hp.n j e)
   ·exact l
 ·show Im _ _ _ (if (y.pt p).isSome then y.pby p else x.tb p)∧(if (y.pt p).isSome then y.pby p else x.tb p).length=64∧(x.bs s.1∨_)
  have e:(if (y.pt p).isSome then y.pt p else x.td p)=some s:=e
  cases q:y.pt p with
  | none=>
   rw[q] at e
   simp only[Option.isSome_none,Bool.false_eq_true,if_false] at e ⊢
   obtain⟨r1,r2,r3⟩:=st.tb p s e
   refine⟨⟨(r1.upd hu (fun j e2 q2=>r1.n j e2 (by rcases q2 with q2|q2;exact .inl q2;exact .inr (.inl q2)))).a,r1.n⟩,r2,.inl r3⟩
  | some s'=>
   rw[q] at e
   simp only[Option.isSome_some,if_true,Option.some.injEq] at e ⊢
   subst e
   obtain⟨r1,r2,r3⟩:=h.pv p s' q
   have r4:=h.ltP q
   exact⟨⟨(r1.upd hu (fun j e2 q2=>r1.n j e2 (.inl (by rcases q2 with q2|q2;exact .inl q2;exact .inr (.inl q2))))).a,fun j e2 q2=>r1.n j e2 (.inl q2)⟩,r2,.inr ⟨r3,by omega⟩⟩
 ·exact st.dk.upd8 hu (dkF _ (.inl rfl)) (dkF _ (.inr (.inl rfl))) (dkF _ (.inr (.inr (.inl rfl)))) (fun j e=>dkF _ (.inr (.inr (.inr e))))
 ·have:=h.fs.lt _ (h.fs.bm _ e)
  have e2:y.N=(keptM x y w0.heap.size w'.heap.size).N:=rfl
  omega
 ·rcases e with e|e
  ·have:=h.fs.lt j e;omega
  ·exact e.2
theorem st_qr (p v:Value):Instr.storeAt 131 p v=stR 131 p v:=rfl
theorem st_nds (p v:Value):Instr.storeAt 128 p v=stR 128 p v:=rfl
theorem st_qr_run {w:World} {b o:Nat} {u:Value} (c:w.cell? ⟨b,o,none⟩=some u) (f:w.frozen? ⟨b,o,none⟩=false) (a:Option Addr) (n k:Nat):(stR 131 (.pointer (some ⟨b,o,none⟩)) (.slice a n k)).run Tryz.prog w=.ok () (w.setCell ⟨b,o,none⟩ (.slice a n k)):=by
 rw[← st_qr]
 simp[go_sem,c,f]
theorem st_nds_run {w:World} {b o:Nat} {u:Value} (c:w.cell? ⟨b,o,none⟩=some u) (f:w.frozen? ⟨b,o,none⟩=false) (a:Option Addr) (n k:Nat):(stR 128 (.pointer (some ⟨b,o,none⟩)) (.slice a n k)).run Tryz.prog w=.ok () (w.setCell ⟨b,o,none⟩ (.slice a n k)):=by
 rw[← st_nds]
 simp[go_sem,c,f]
def sto (F:Nat) (G:Nat→Nat) (w:World):World:=w.setCells F 2 (forA G).toList
theorem sto_row {F T:Nat} {G:Nat→Nat} {w:World} {A:Array Value}(h:Row w F T A)(hA:A.size=198):sto F G w=w.setRow F (putA A 2 (forA G).toList):=
 h.setCells _ (by rw[hA];simp[forA_size])
def I27 (F:Nat) (W w:World):Prop:=(∃A,Row w F 137 A∧A.size=198)∧Upd (fun j=>j=F) W w
def S27 (F t:Nat) (G:Nat→Nat) (FA:Array Value) (v4:Value) (W w:World):Prop:=(ldR 115 (.pointer (some ⟨t,1,none⟩))).run Tryz.prog w=.ok (.agg FA) w∧w.cell? ⟨t,193,none⟩=some (.slice none 0 0)∧w.cell? ⟨t,194,none⟩=some v4∧(stR 131 (.pointer (some ⟨F,194,none⟩)) (.slice none 0 0)).run Tryz.prog w=.ok () (w.setCell ⟨F,194,none⟩ (.slice none 0 0))∧(stR 128 (.pointer (some ⟨F,195,none⟩)) v4).run Tryz.prog w=.ok () (w.setCell ⟨F,195,none⟩ v4)∧(stR 115 (.pointer (some ⟨F,2,none⟩)) (.agg FA)).run Tryz.prog w=.ok () (sto F G w)∧Hid (I27 F W w)
theorem s27_mk {F t T:Nat} {G:Nat→Nat} {FA:Array Value} {v4:Value} {W w:World}(h4:∃a n k,v4=.slice a n k)(hFA:FA=forA G)(hW:∀w,Upd (fun j=>j=F) W w→(ldR 115 (.pointer (some ⟨t,1,none⟩))).run Tryz.prog w=.ok (.agg FA) w∧w.cell? ⟨t,193,none⟩=some (.slice none 0 0)∧w.cell? ⟨t,194,none⟩=some v4)(h:I27 F W w):S27 F t G FA v4 W w:=by
 subst hFA
 obtain⟨⟨A,hr,hs⟩,hu⟩:=h
 obtain⟨h1,h2,h3⟩:=hW w hu
 obtain⟨a4,n4,k4,e4⟩:=h4
 obtain⟨u1,c1⟩:∃u,w.cell? ⟨F,194,none⟩=some u:=⟨_,by rw[hr.cell,Array.getElem?_eq_getElem (by omega)]⟩
 obtain⟨u2,c2⟩:∃u,w.cell? ⟨F,195,none⟩=some u:=⟨_,by rw[hr.cell,Array.getElem?_eq_getElem (by omega)]⟩
 refine⟨h1,h2,h3,st_qr_run c1 (hr.fz _) _ _ _,by rw[e4];exact st_nds_run c2 (hr.fz _) _ _ _,?_,Lib.hid ⟨⟨A,hr,hs⟩,hu⟩⟩
 rw[sto_row hr hs]
 exact hr.st (U:=115) (by rw[forA_size,hs];decide) (by rw[forA_size];kernel_rfl) (forA_one _)
theorem i27_sto {F:Nat} {G:Nat→Nat} {W w:World}(h:I27 F W w):I27 F W (sto F G w):=by
 obtain⟨⟨A,hr,hs⟩,hu⟩:=h
 rw[sto_row hr hs]
 exact⟨⟨_,hr.setRow _,by rw[putA_size (by rw[hs];simp[forA_size])];exact hs⟩,hu.trans (Upd.setRow _ _ rfl)⟩
theorem i27_set {F:Nat} {W w:World}(h:I27 F W w) (k:Nat) (v:Value):I27 F W (w.setCell ⟨F,k,none⟩ v):=by
 obtain⟨⟨A,hr,hs⟩,hu⟩:=h
 refine⟨⟨A.setIfInBounds k v,by rw[hr.setCell];exact hr.setRow _,by rw[Array.size_setIfInBounds];exact hs⟩,hu.trans (Upd.set _ _ rfl)⟩
theorem i27_drew {F:Nat} {W w:World}(h:I27 F W w):I27 F W w.drew:=⟨by obtain⟨⟨A,hr,hs⟩,_⟩:=h;exact⟨A,hr.drew,hs⟩,h.2.trans (Upd.drew _)⟩
def R27 (F:Nat) (A0:Array Value) (G:Nat→Nat) (v4:Value) (s n:Bool) (w:World):Prop:=∃A,Row w F 137 A∧A.size=198∧∀j,A[j]?=if j=195∧n=true then some v4 else if (2≤j∧j<194)∧s=true then (forA G)[j-2]? else A0[j]?
section
variable {F:Nat} {A0:Array Value} {G:Nat→Nat} {v4:Value} {s n:Bool} {w:World}
theorem r27_0 (h:Row w F 137 A0)(hs:A0.size=198):R27 F A0 G v4 false false w:=⟨A0,h,hs,fun j=>by simp⟩
theorem r27_drew (h:R27 F A0 G v4 s n w):R27 F A0 G v4 s n w.drew:=h
theorem r27_sto (h:R27 F A0 G v4 s n w):R27 F A0 G v4 true n (sto F G w):=by
 obtain⟨A,hr,hs,hA⟩:=h
 have hl:2+(forA G).toList.length≤A.size:=by rw[hs];simp[forA_size]
 rw[sto_row hr hs]
 refine⟨_,hr.setRow _,by rw[putA_size hl];exact hs,fun j=>?_⟩
 have e192:(forA G).toList.length=192:=by simp[forA_size]
 rw[putA_get hl,e192,hA j]
 by_cases h1:2≤j∧j<194
 ·rw[if_pos (by omega),if_neg (by omega),if_pos ⟨h1,rfl⟩,Array.getElem?_toList]
 ·rw[if_neg (by omega)]
  by_cases h2:j=195∧n=true
  ·rw[if_pos h2,if_pos h2]
  ·rw[if_neg h2,if_neg h2,if_neg (fun q=>h1 q.1),if_neg (fun q=>h1 q.1)]
theorem r27_195 (h:R27 F A0 G v4 s n w):R27 F A0 G v4 s true (w.setCell ⟨F,195,none⟩ v4):=by
 obtain⟨A,hr,hs,hA⟩:=h
 refine⟨_,by rw[hr.setCell];exact hr.setRow _,by rw[Array.size_setIfInBounds];exact hs,fun j=>?_⟩
 rw[Array.getElem?_setIfInBounds]
 by_cases h1:j=195
 ·subst h1;rw[if_pos rfl,if_pos (by omega),if_pos ⟨rfl,rfl⟩]
 ·rw[if_neg (fun e=>h1 e.symm),hA j]
  simp only[h1,false_and,if_false]
theorem r27_194 (h0:A0[194]?=some (.slice none 0 0))(h:R27 F A0 G v4 s n w):R27 F A0 G v4 s n (w.setCell ⟨F,194,none⟩ (.slice none 0 0)):=by
 obtain⟨A,hr,hs,hA⟩:=h
 refine⟨_,by rw[hr.setCell];exact hr.setRow _,by rw[Array.size_setIfInBounds];exact hs,fun j=>?_⟩
 rw[Array.getElem?_setIfInBounds]
 by_cases h1:j=194
 ·subst h1;rw[if_pos rfl,if_pos (by omega),if_neg (by omega),if_neg (by omega),h0]
 ·rw[if_neg (fun e=>h1 e.symm),hA j]
theorem r27_end {c:FC} {x:FM} {N cap:Nat} {x':FM}(h:R27 c.F (fsR c x) G (.slice (some ⟨N,0,none⟩) 32 cap) true true w) (e1:x'.G=G) (e2:x'.N=N) (e3:x'.cap=cap) (e4:x'.a=x.a):Row w c.F 137 (fsR c x'):=by
 obtain⟨A,hr,hs,hA⟩:=h
 have:A=fsR c x':=by
  apply Array.ext_getElem?
  intro j
  rw[hA j]
  by_cases h1:2≤j∧j<194
  ·rw[if_neg (by omega),if_pos ⟨h1,rfl⟩]
   have e:(fsR c x').extract 2 (2+192)=forA x'.G:=fsR_for c x'
   have e':((fsR c x').extract 2 (2+192))[j-2]?=(forA G)[j-2]?:=by rw[e,e1]
   rw[← e',Array.getElem?_extract,if_pos (by rw[fsR_size];omega),show 2+(j-2)=j by omega]
  ·by_cases h2:j=195
   ·subst h2
    rw[if_pos ⟨rfl,rfl⟩,fsR_hi c x' 1,← e2,← e3];rfl
   ·rw[if_neg (fun q=>h2 q.1),if_neg (fun q=>h1 q.1)]
    by_cases h3:j<2
    ·rw[fsR_lo c x h3,fsR_lo c x' h3]
    ·obtain⟨k,rfl⟩:∃k,j=194+k:=⟨j-194,by omega⟩
     rw[fsR_hi,fsR_hi,e4]
     rcases k with _|_|_|_|k
     ·rfl
     ·exact absurd rfl h2
     ·rfl
     ·rfl
     ·rfl
 rw[← this]
 exact hr
end
theorem At.part {w:World} {l:List Int} {b o n c:Nat}(h:At (Value.int .u8) 0 w (.slice (some ⟨b,o,none⟩) n c) l)(hl:l.length=192) {k:Nat}(hk:k+64≤192):At (Value.int .u8) 0 w (.slice (some ⟨b,o+k,none⟩) 64 (c-k)) ((l.drop k).take 64):=by
 obtain⟨a',cap',e1,e2,e3,e4⟩:=h
 injection e1 with e1 e5 e6
 subst e6
 subst e5
 have hl2:((l.drop k).take 64).length=64:=by rw[List.length_take,List.length_drop,hl];omega
 refine⟨_,_,by rw[hl2],by rw[hl2];omega,by omega,?_⟩
 rcases e4 with e4|⟨b',o',g1,g2,g3⟩
 ·rw[e4] at hl;cases hl
 ·rw[g1] at e1
  injection e1 with e1
  injection e1 with e1 e7 _
  subst e1
  subst e7
  refine .inr ⟨b,o+k,rfl,g2,fun i hi=>?_⟩
  rw[hl2] at hi
  have:=g3 (k+i) (by rw[hl];omega)
  rw[Nat.add_assoc,this]
  congr 2
  simp[List.getD,List.getElem?_take,hi]
section
variable {w0 w:World} {c:FC} {x:FM} {t:Nat} {y:TM}
theorem room_is (h:FSt w c x):Calls Tryz.prog 199 #[.pointer (some ⟨c.L,0,none⟩)] w fun e w'=>e=.returned (.int .i64 30)∧w=w':=by
 have c2:w.cell? ⟨c.L,2,none⟩=some (.int .i64 32):=by rw[h.lg.cell];rfl
 clear h
 go_enter Tryz.func199,Tryz.ntmps199
 go_wp2_with fail
 go_ret
 exact⟨rfl,rfl⟩
theorem pk_partG (G:Nat→Nat) (o:Nat)(h:o+64≤192):(((pkS G 4).drop o).take 64).length=64:=by
 rw[List.length_take,List.length_drop,pkS_len]
 omega
theorem below_g0 {w w':World}(h:w.grownBy w' none):Below w.heap.size w w':=⟨h.os,h.tape,h.output,h.size,fun k hk=>h.block k hk (by simp)⟩
theorem txrow_ld {w:World} {c:FC} {t:Nat} {y:TM}(h:Row w t 243 (txR c y)):(ldR 115 (.pointer (some ⟨t,1,none⟩))).run Tryz.prog w=.ok (.agg (forA y.G)) w:=by
 have:=h.ld (U:=115) (o:=1) (n:=192) (by rw[txR_size];decide) Tryz.underlying115 rfl (by kernel_rfl)
 rw[txR_for] at this
 exact this
attribute [local go_sem ↓] ld_for st_for st_qr st_nds
def FDone (x:FM) (y y':TM):Prop:=(∀i,i<3→tsec x y' (1+i)=((pkS y.G 4).drop (64*i)).take 64)∧tsec x y' 4=zeros 64
theorem keep_is (h:TX w0 w c x t y)(hn:x.na+y.np+4≤30)(hpt:∀j,1≤j→j≤4→y.pt j=none) :
  Calls Tryz.prog 121 #[.pointer (some ⟨t,0,none⟩)] w fun e w'=>e=.returned (.int .i64 0)∧(∃y',PtOff (fun j=>1≤j∧j≤4) 4 y y'∧FSt w' c (keptM x y' w0.heap.size w'.heap.size)∧FDone x y y')∧Upd (fun j=>j=c.F∨j=x.a) w0 w':=by
 have HPK:=Lib.hid (pack_is w h.fr)
 have l1:=h.ldF
 have HH:=Lib.hid h
 have HX:=Lib.hid (And.intro hn hpt)
 obtain⟨FA,hFA⟩:∃FA,FA=forA y.G:=⟨_,rfl⟩
 rw[← hFA] at l1 HPK
 have HFA:=Lib.hid hFA
 clear h hn hpt hFA
 go_enter Tryz.func121,Tryz.ntmps121
 go_upto_region 2 with (go_at_call 43;(with_reducible refine HPK.out.mono ?_);rintro e1 w1 ⟨v1,rfl,ho1,hb1⟩)
 have HT1:=Lib.hid (HH.out.keep hb1)
 have HB1:=Lib.hid hb1
 have HO1:=Lib.hid ho1
 have c2:=HT1.out.c2
 have HQP:=Lib.hid (qpack_is w1)
 clear l1 hb1 ho1 HPK
 go_upto_region 3 with (go_at_call 113;(with_reducible refine HQP.out.mono ?_);rintro e2 w2 ⟨v2,rfl,ho2,hb2⟩)
 have HT2:=Lib.hid (HT1.out.keep hb2)
 have HB2:=Lib.hid (HB1.out.trans (hb2.mono HB1.out.size))
 have HO2:=Lib.hid (ho2.base HB1.out.size)
 have HOA:=Lib.hid (HO1.out.keep hb2)
 clear c2 hb2 ho2 HQP HO1 HT1 HB1
 obtain⟨p1,c1,rfl⟩:=HOA.out.form
 rw[pkS_len] at HOA ⊢
 obtain⟨b1,o1,rfl,hc1⟩:∃b o,p1=some ⟨b,o,none⟩∧192≤c1:=by
  obtain⟨a',cap',e1,e2,e3,e4⟩:=HOA.out.at
  injection e1 with e1 e5 e6
  rcases e4 with e4|⟨b',o',g1,_⟩
  ·have:=pkS_len y.G 4;rw[e4] at this;cases this
  ·exact⟨b',o',by rw[e1,g1],by rw[pkS_len] at e2;omega⟩
 have HA0:=Lib.hid HOA.out.at
 have hc1m:(c1:Int)≤9223372036854775807:=by
  obtain⟨a',cap',e1,e2,e3,e4⟩:=HA0.out
  injection e1 with e1 e5 e6
  unfold maxLen at e3;omega
 have HOF:Hid (∀j,(Value.slice (some ⟨b1,o1,none⟩) 192 c1).ownBlock=some j→¬tMut t y j):=Lib.hid (fun j e q=>by have:=(HOA.out.lt j e).1;have:=(HH.out.mlt q).2;omega)
 have HOQ:Hid (∀j,v2.ownBlock=some j→¬tMut t y j):=Lib.hid (fun j e q=>by have:=(HO2.out.lt j e).1;have:=(HH.out.mlt q).2;omega)
 have HY0:Hid (PtOff (fun j=>1≤j∧j≤0) 0 y y):=Lib.hid (PtOff.refl _ _ _)
 have HQ0:=Lib.hid HO2.out.at
 go_wp2_with fail
 refine wp_loop_rounds 4 ?_
 have HP0:=Lib.hid ((HA0.out.part (pkS_len y.G 4) (k:=0) (by decide)))
 rw[Nat.add_zero,Nat.sub_zero] at HP0
 have HD0:=Lib.hid (differ_is HT2.out (p:=1) (by decide) (n:=1) rfl HP0.out (pk_partG y.G 0 (by decide)) (by have:=HX.out.1;have:=HY0.out.np;omega) (by rw[(HY0.out.off 1 (by omega)).1];exact HX.out.2 1 (by decide) (by decide)))
 rw[rounds_succ]
 go_wp2_with (go_at_call 198;(with_reducible refine HD0.out.mono ?_);rintro e3 w3 ⟨rfl,⟨y1,hT,hP,hs⟩,hu⟩)
 have HY1:Hid (PtOff (fun j=>1≤j∧j≤1) 1 y y1):=Lib.hid ((HY0.out.trans hP).mono (fun j q=>by rcases q with q|q <;> omega))
 rw[HY0.out.mut] at hu
 have HT3:=Lib.hid hT
 have HA1:=Lib.hid (HA0.out.upd8 hu (fun j e q=>HOF.out j e q))
 have HQ1:=Lib.hid (HQ0.out.upd8 hu (fun j e q=>HOQ.out j e q))
 have HS1:=Lib.hid hs
 clear hT hP hs hu HD0 HP0 HT2 HA0 HQ0
 have HP1:=Lib.hid ((HA1.out.part (pkS_len y.G 4) (k:=64) (by decide)))
 have HD1:=Lib.hid (differ_is HT3.out (p:=2) (by decide) (n:=2) rfl HP1.out (pk_partG y.G 64 (by decide)) (by have:=HX.out.1;have:=HY1.out.np;omega) (by rw[(HY1.out.off 2 (by omega)).1];exact HX.out.2 2 (by decide) (by decide)))
 rw[rounds_succ]
 go_wp2_with (go_at_call 198;(with_reducible refine HD1.out.mono ?_);rintro e3 w4 ⟨rfl,⟨y2,hT,hP,hs⟩,hu⟩)
 have HY2:Hid (PtOff (fun j=>1≤j∧j≤2) 2 y y2):=Lib.hid ((HY1.out.trans hP).mono (fun j q=>by rcases q with q|q <;> omega))
 rw[HY1.out.mut] at hu
 have HT4:=Lib.hid hT
 have HA2:=Lib.hid (HA1.out.upd8 hu (fun j e q=>HOF.out j e q))
 have HQ2:=Lib.hid (HQ1.out.upd8 hu (fun j e q=>HOQ.out j e q))
 have HS2:=Lib.hid hs
 have HK2:Hid (∀q:Nat,q≠2→tsec x y1 q=tsec x y2 q):=Lib.hid (fun q hq=>(hP.sec (by omega)).symm)
 clear hT hP hs hu HD1 HP1 HT3 HA1 HQ1
 have HP2:=Lib.hid ((HA2.out.part (pkS_len y.G 4) (k:=128) (by decide)))
 have HD2:=Lib.hid (differ_is HT4.out (p:=3) (by decide) (n:=3) rfl HP2.out (pk_partG y.G 128 (by decide)) (by have:=HX.out.1;have:=HY2.out.np;omega) (by rw[(HY2.out.off 3 (by omega)).1];exact HX.out.2 3 (by decide) (by decide)))
 rw[rounds_succ]
 go_wp2_with (go_at_call 198;(with_reducible refine HD2.out.mono ?_);rintro e3 w5 ⟨rfl,⟨y3,hT,hP,hs⟩,hu⟩)
 have HY3:Hid (PtOff (fun j=>1≤j∧j≤3) 3 y y3):=Lib.hid ((HY2.out.trans hP).mono (fun j q=>by rcases q with q|q <;> omega))
 rw[HY2.out.mut] at hu
 have HT5:=Lib.hid hT
 have HA3:=Lib.hid (HA2.out.upd8 hu (fun j e q=>HOF.out j e q))
 have HQ3:=Lib.hid (HQ2.out.upd8 hu (fun j e q=>HOQ.out j e q))
 have HS3:=Lib.hid hs
 have HK3:Hid (∀q:Nat,q≠3→tsec x y2 q=tsec x y3 q):=Lib.hid (fun q hq=>(hP.sec (by omega)).symm)
 clear hT hP hs hu HD2 HP2 HT4 HA2 HQ2
 have HD3:=Lib.hid (differ_is HT5.out (p:=4) (by decide) (n:=4) rfl HQ3.out (zeros_len 64) (by have:=HX.out.1;have:=HY3.out.np;omega) (by rw[(HY3.out.off 4 (by omega)).1];exact HX.out.2 4 (by decide) (by decide)))
 rw[rounds_succ]
 go_upto_region 11 with (go_at_call 198;(with_reducible refine HD3.out.mono ?_);rintro e3 w6 ⟨rfl,⟨y4,hT,hP,hs⟩,hu⟩)
 have HY4:Hid (PtOff (fun j=>1≤j∧j≤4) 4 y y4):=Lib.hid ((HY3.out.trans hP).mono (fun j q=>by rcases q with q|q <;> omega))
 have HFD:Hid (FDone x y y4):=Lib.hid (by
    refine⟨fun i hi=>?_,hs⟩
    have e1:tsec x y1 1=((pkS y.G 4).drop (64*0)).take 64:=HS1.out
    have e2:tsec x y2 2=((pkS y.G 4).drop (64*1)).take 64:=HS2.out
    have e3:tsec x y3 3=((pkS y.G 4).drop (64*2)).take 64:=HS3.out
    have k43:∀q:Nat,q≠4→tsec x y4 q=tsec x y3 q:=fun q hq=>hP.sec (by omega)
    rcases i with _|_|_|i
    · rw[k43 _ (by decide),← HK3.out 1 (by decide),← HK2.out 1 (by decide)];exact e1
    · rw[k43 _ (by decide),← HK3.out 2 (by decide)];exact e2
    · rw[k43 _ (by decide)];exact e3
    · omega)
 have HT6:=Lib.hid hT
 rw[HY3.out.mut] at hu
 clear hT hP hs hu HD3 HT5 HA3 HQ3 HS1 HS2 HS3 HK2 HK3
 have c0:=HT6.out.c0
 have d5:=HT6.out.st.c5
 have c5:=HT6.out.c5
 obtain⟨n0,hn0,hlen⟩:=HT6.out.st.td.len (T:=134) Tryz.underlying134 3
 have HN0:=Lib.hid hn0
 clear hn0
 go_wp2_with (first|(at_range;refine wpList_range_c _ rfl _ 134 rfl _ Tryz.underlying134 rfl HT6.out.pb ?_;intro w7 cnt7 hc7 hrg7 hg7 hs7)|go_in)
 go_frame
 have HB7:=Lib.hid (below_g0 hg7)
 have HR7:=Lib.hid hrg7
 have HC7:=Lib.hid hc7
 clear hc7 hrg7 hg7 hs7 c0 d5 c5 hlen
 go_loopw [9] (fun nv wr=>∃(m:Nat) (lf:Int→Bool) (cnt:Nat),nv=.int .i64 (m:Nat)∧Hid (CRng cS wr y4.pb w6.heap.size y4.np y4.pt lf cnt)∧Hid (m+cnt≤x.na+y4.np)∧Hid (Below w6.heap.size w6 wr)) (fun _ wr=>wr.rangeLeft y4.pb w6.heap.size)
 case atStart=>exact⟨n0,_,cnt7,rfl,HR7,Lib.hid (by have:=HN0.out;have:=HC7.out;omega),HB7⟩
 case round=>
  clear HR7 HB7 HC7
  obtain⟨m,lf,cnt,rfl,HR,HM,HB⟩:=hrel
  go_wp2_with (first|(at_next;refine wpList_next_c _ rfl _ rfl (cnt:=cnt) rfl HR.out ?_ ?_)|go_in)
  ·intro hl
   have hm30:¬(30:Int)<m:=by have:=HM.out;have:=HY4.out.np;have:=HX.out.1;omega
   have hTr:=HT6.out.keep HB.out
   have c1:=hTr.st.c1
   have HRM:=Lib.hid (room_is hTr.st)
   have c5:=hTr.c5
   have HTr:=Lib.hid hTr
   clear hTr
   go_wp2_with (first|(go_at_call 199;(with_reducible refine HRM.out.mono ?_);rintro e9 w9 ⟨rfl,rfl⟩)|(at_range;refine wpList_range_c _ rfl _ 134 rfl _ Tryz.underlying134 rfl HTr.out.pb ?_;intro w9 cnt9 hc9 hrg9 hg9 hs9)|go_in)
   go_frame
   obtain⟨wc,hwc⟩:∃wc,wc=wr:=⟨_,rfl⟩
   subst hwc
   have hxa:x.a<w0.heap.size:=HH.out.fs.lt _ (HH.out.fs.bm _ (.inr (.inl rfl)))
   have hcF:c.F<w0.heap.size:=HH.out.fs.lt _ (HH.out.fs.bm _ (.inl rfl))
   have hzc:w0.heap.size≤wc.heap.size:=HTr.out.bl.size
   have hFa:c.F≠x.a:=HTr.out.st.n1.1
   have HZ:=Lib.hid (And.intro hxa (And.intro hcF (And.intro hzc (And.intro hFa HTr.out.b0))))
   have HM9:Hid (CMap cS w9 x.a (x.na+(y4.np-cnt9)) (fun p=>if (y4.pt p).isSome && !(y4.pt p).isSome then y4.pt p else x.td p)):=Lib.hid (by
        have e:(fun p=>if (y4.pt p).isSome && !(y4.pt p).isSome then y4.pt p else x.td p)=x.td:=by funext p;cases (y4.pt p).isSome <;> rfl
        rw[e]
        exact(HTr.out.st.td.keep (below_g0 hg9)).mono (by omega))
   have HR9:=Lib.hid hrg9
   have HC9:=Lib.hid hc9
   have HU9:Hid (Upd (fun j=>j=x.a) wc w9):=Lib.hid (Upd.below (below_g0 hg9))
   clear hxa hcF hzc hFa hrg9 hc9 hg9 hs9 c1 c5 HRM HR HM
   go_loopw [14] (fun _ w3=>∃(lf:Int→Bool) (cnt:Nat),Hid (CRng cS w3 y4.pb wc.heap.size y4.np y4.pt lf cnt)∧Hid (CMap cS w3 x.a (x.na+(y4.np-cnt)) (fun p=>if (y4.pt p).isSome && !lf p then y4.pt p else x.td p))∧Hid (cnt≤y4.np)∧Hid (Upd (fun j=>j=x.a) wc w3)) (fun _ w3=>w3.rangeLeft y4.pb wc.heap.size)
   case atStart=>exact⟨_,cnt9,HR9,HM9,HC9,HU9⟩
   case round=>
    clear HR9 HM9 HC9 HU9
    obtain⟨lf2,cnt2,HR,HM,HC,HU⟩:=hrel
    go_wp2_with (first|(at_next;refine wpList_next_c _ rfl _ rfl (cnt:=cnt2) rfl HR.out ?_ ?_)|go_in)
    ·intro hl2
     obtain⟨W,hWr⟩:∃W,W=wr:=⟨_,rfl⟩
     subst hWr
     have HMW:Hid (CMap cS W x.a (x.na+y4.np) (fun p=>if (y4.pt p).isSome then y4.pt p else x.td p)):=Lib.hid (by
            have h:=HM.out
            have e:(fun p=>if (y4.pt p).isSome && !lf2 p then y4.pt p else x.td p)=(fun p=>if (y4.pt p).isSome then y4.pt p else x.td p):=by funext p;rw[hl2 p];simp
            rw[e] at h
            exact h.mono (by omega))
     have hrF:Row W c.F 137 (fsR c x):=HTr.out.st.row.upd HU.out HZ.out.2.2.2.1
     have hrT:Row W t 243 (txR c y4):=HTr.out.row.upd HU.out (fun e=>by have:=HZ.out;omega)
     have HRF:=Lib.hid hrF
     have HI:Hid (I27 c.F W W):=Lib.hid ⟨⟨_,hrF,fsR_size c x⟩,Upd.refl _ _⟩
     obtain⟨GA,hGA⟩:∃GA,GA=forA y4.G:=⟨_,rfl⟩
     have HGA:=Lib.hid hGA
     have HKS:Hid (∀wx,I27 c.F W wx→(ldR 115 (.pointer (some ⟨t,1,none⟩))).run Tryz.prog wx=.ok (.agg GA) wx∧wx.cell? ⟨t,193,none⟩=some (.slice none 0 0)∧wx.cell? ⟨t,194,none⟩=some (.slice (some ⟨y4.N,0,none⟩) 32 y4.cap)∧(stR 131 (.pointer (some ⟨c.F,194,none⟩)) (.slice none 0 0)).run Tryz.prog wx=.ok () (wx.setCell ⟨c.F,194,none⟩ (.slice none 0 0))∧(stR 128 (.pointer (some ⟨c.F,195,none⟩)) (.slice (some ⟨y4.N,0,none⟩) 32 y4.cap)).run Tryz.prog wx=.ok () (wx.setCell ⟨c.F,195,none⟩ (.slice (some ⟨y4.N,0,none⟩) 32 y4.cap))∧(stR 115 (.pointer (some ⟨c.F,2,none⟩)) (.agg GA)).run Tryz.prog wx=.ok () (sto c.F y4.G wx)∧Hid (I27 c.F W wx)):=Lib.hid (fun wx h=>s27_mk (T:=0) ⟨_,_,_,rfl⟩ hGA (fun wx hx=>by
            have hr:=hrT.upd hx (fun e=>by have:=HZ.out;omega)
            refine⟨by rw[hGA];exact txrow_ld hr,by rw[hr.cell,txR_hi c y4 0];rfl,by rw[hr.cell,txR_hi c y4 1];rfl⟩) h)
     clear hrF hrT hGA hl2 hl
     go_upto_region 27 with fail
     go_region_held3 (fun wx=>(ldR 115 (.pointer (some ⟨t,1,none⟩))).run Tryz.prog wx=.ok (.agg GA) wx∧wx.cell? ⟨t,193,none⟩=some (.slice none 0 0)∧wx.cell? ⟨t,194,none⟩=some (.slice (some ⟨y4.N,0,none⟩) 32 y4.cap)∧(stR 131 (.pointer (some ⟨c.F,194,none⟩)) (.slice none 0 0)).run Tryz.prog wx=.ok () (wx.setCell ⟨c.F,194,none⟩ (.slice none 0 0))∧(stR 128 (.pointer (some ⟨c.F,195,none⟩)) (.slice (some ⟨y4.N,0,none⟩) 32 y4.cap)).run Tryz.prog wx=.ok () (wx.setCell ⟨c.F,195,none⟩ (.slice (some ⟨y4.N,0,none⟩) 32 y4.cap))∧(stR 115 (.pointer (some ⟨c.F,2,none⟩)) (.agg GA)).run Tryz.prog wx=.ok () (sto c.F y4.G wx)∧Hid (I27 c.F W wx)) (first|(with_reducible exact HKS.out _ (i27_drew HI.out))|(with_reducible exact HKS.out _ (i27_sto (i27_drew HI.out)))|(with_reducible exact HKS.out _ (i27_set (i27_sto (i27_drew HI.out)) _ _))|(with_reducible exact HKS.out _ (i27_set (i27_set (i27_sto (i27_drew HI.out)) _ _) _ _))|fail) (fail)
     have hrr:=r27_195 (r27_194 (fsR_hi c x 0) (r27_sto (G:=y4.G) (v4:=.slice (some ⟨y4.N,0,none⟩) 32 y4.cap) (r27_drew (r27_0 HRF.out (fsR_size c x)))))
     have HRR:=Lib.hid hrr
     have HUU:Hid (Upd (fun j=>j=c.F) W (((sto c.F y4.G W.drew).setCell ⟨c.F,194,none⟩ (.slice none 0 0)).setCell ⟨c.F,195,none⟩ (.slice (some ⟨y4.N,0,none⟩) 32 y4.cap))):=Lib.hid (i27_set (i27_set (i27_sto (i27_drew HI.out)) _ _) _ _).2
     clear hrr HKS HI HRF
     generalize ((sto c.F y4.G W.drew).setCell ⟨c.F,194,none⟩ (.slice none 0 0)).setCell ⟨c.F,195,none⟩ (.slice (some ⟨y4.N,0,none⟩) 32 y4.cap)=W2 at *
     go_wp2_with fail
     go_ret
     have huW:Upd (fun j=>j=c.F∨j=x.a) wc W2:=(HU.out.mono (fun i _ e=>.inr e)).trans (HUU.out.mono (fun i _ e=>.inl e))
     have hmW:CMap cS W2 x.a (x.na+y4.np) (fun p=>if (y4.pt p).isSome then y4.pt p else x.td p):=HMW.out.upd HUU.out (fun e=>HZ.out.2.2.2.1 e.symm)
     have hk:=keptM_fst (A:=fsR c (keptM x y4 w0.heap.size W2.heap.size)) HTr.out (r27_end (G:=y4.G) (N:=y4.N) (cap:=y4.cap) (x':=keptM x y4 w0.heap.size W2.heap.size) HRR.out rfl rfl rfl rfl) rfl hmW huW
     exact⟨rfl,⟨y4,HY4.out,hk,HFD.out⟩,(Upd.below HTr.out.bl).trans' huW (fun i hi e=>e)⟩
    ·intro k sb so sn sc w8 cnt8 hwf hlf hfk hrg8 hlt hg8 hs8 hen
     have hu8:Upd (fun j=>j=x.a) wc w8:=HU.out.trans' (Upd.grown hg8 (S:=fun j=>j=wc.heap.size) rfl) (fun i hi e=>by omega)
     have hm8:=HM.out.kept hg8 (fun e=>by injection e with e;have:=HZ.out;omega)
     have hrF:Row w8 c.F 137 (fsR c x):=HTr.out.st.row.upd hu8 HZ.out.2.2.2.1
     have d5:w8.cell? ⟨c.F,196,none⟩=some (.map (some x.a)):=by rw[hrF.cell,fsR_hi c x 2];rfl
     obtain⟨w10,hput,hm10,hg10⟩:=hm8.put (T:=134) Tryz.underlying134 hwf (by have:=HX.out.1;have:=HY4.out.np;unfold maxLen;omega) (sb,so,sn,sc)
     change _=Result.ok (Value.tuple #[.int .i64 k,encS (some (sb,so,sn,sc))]) w8 at hen
     change (Instr.mapUpdate 134 (.map (some x.a)) (.int .i64 k) (encS (some (sb,so,sn,sc)))).run Tryz.prog w8=_ at hput
     have hrg10:=hrg8.kept hg10 (fun e=>by injection e with e;have:=HZ.out;omega) (fun e=>by injection e with e;have:=HZ.out;omega)
     have HR10:=Lib.hid hrg10
     have HLT:=Lib.hid (And.intro hlt (And.intro hrg10.left HR.out.left))
     have HM10:Hid (CMap cS w10 x.a (x.na+(y4.np-cnt8)) (fun p=>if (y4.pt p).isSome && !(lf2 p && !decide (p=k)) then y4.pt p else x.td p)):=Lib.hid (by
            have e:(fun j=>if j=k then some (sb,so,sn,sc) else if (y4.pt j).isSome && !lf2 j then y4.pt j else x.td j)=(fun p=>if (y4.pt p).isSome && !(lf2 p && !decide (p=k)) then y4.pt p else x.td p):=by
              funext p
              by_cases e:p=k
              · subst e
                simp[hfk]
              · simp[e]
            rw[← e]
            exact hm10.mono (by have:=HC.out;omega))
     have HC10:Hid (cnt8≤y4.np):=Lib.hid (by have:=HC.out;omega)
     have HU10:Hid (Upd (fun j=>j=x.a) wc w10):=Lib.hid (hu8.trans (Upd.grown hg10 rfl))
     clear hrg8 hlt hg8 hs8 hu8 hm8 hrF hm10 hg10 hrg10 hfk hlf
     generalize encS (some (sb,so,sn,sc))=V2 at *
     go_wp2_with fail
     go_roundw
     case rel=>exact⟨_,cnt8,HR10,HM10,HC10,HU10⟩
     case measure=>rw[HLT.out.2.1,HLT.out.2.2];exact HLT.out.1
  ·intro k sb so sn sc w8 cnt8 hwf hlf hfk hrg8 hlt hg8 hs8 hen
   have hb8:Below w6.heap.size w6 w8:=HB.out.grown hg8 HB.out.size (fun j hj=>by cases hj;exact Nat.le_refl _)
   have hT8:=HT6.out.keep hb8
   have d5:=hT8.st.c5
   have lk:=hT8.st.td.look_ok (T:=134) Tryz.underlying134 (zeroS w8) hwf
   change _=Result.ok (Value.tuple #[encS (x.td k),.bool (x.td k).isSome]) w8 at lk
   change _=Result.ok (Value.tuple #[.int .i64 k,encS (some (sb,so,sn,sc))]) w8 at hen
   have y1:IntKind.i64.wrap ((m:Int)+1)=m+1:=IntWalk.i64_in _ (by have:=HM.out;have:=HY4.out.np;have:=HX.out.1;omega)
   have HR8:=Lib.hid hrg8
   have HB8:=Lib.hid hb8
   have HLT:=Lib.hid (And.intro hlt (And.intro hrg8.left HR.out.left))
   clear hT8 hb8 hrg8 hlt hg8 hs8 hfk hlf
   generalize encS (x.td k)=V1 at *
   generalize encS (some (sb,so,sn,sc))=V2 at *
   generalize (x.td k).isSome=q at *
   rcases q with _|_
   ·go_wp2_with fail
    go_roundw
    case rel=>exact⟨m+1,_,cnt8,by go_num,HR8,Lib.hid (by have:=HM.out;have:=HLT.out.1;omega),HB8⟩
    case measure=>rw[HLT.out.2.1,HLT.out.2.2];exact HLT.out.1
   ·go_wp2_with fail
    go_roundw
    case rel=>exact⟨m,_,cnt8,rfl,HR8,Lib.hid (by have:=HM.out;have:=HLT.out.1;omega),HB8⟩
    case measure=>rw[HLT.out.2.1,HLT.out.2.2];exact HLT.out.1
end
end Go.Proofs.YtfkepfncgdlgoaaGreatDoor
