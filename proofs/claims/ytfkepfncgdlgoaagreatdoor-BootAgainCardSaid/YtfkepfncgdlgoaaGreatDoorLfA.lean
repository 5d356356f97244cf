/- The walk of fs.writes: all that is not told yet, in some order. The walk of journal's right: nothing is wrong with few writes to different sectors outside the journal. The walks of package lift at few requests without a barrier: Right, Order$1, slices.IndexFunc. -/
import Derived.Test.YtfkepfncgdlgoaaGreatDoorSyA
import Derived.Test.YtfkepfncgdlgoaaGreatDoorFsT
import Derived.Test.YtfkepfncgdlgoaaGreatDoorStart
namespace Go.Proofs.YtfkepfncgdlgoaaGreatDoor
open Go.RowKit Go.Maps
set_option linter.unusedVariables false
set_option linter.unusedSimpArgs false
set_option maxRecDepth 100000
set_option maxHeartbeats 4000000
def appJ:=Builtin.append_ #[150,150] 150
theorem appJ_eq:Builtin.append_ #[150,150] 150=appJ:=rfl
theorem infoJ:(Tryz.prog.info? 228).map (fun i=>(i.zero,i.size,i.bytes))=some (some (.agg #[.int .i64 0,.slice none 0 0]),2,32):=by kernel_rfl
def WO (B:Nat) (w:World) (v:Value) (l:List WR):Prop:=w.ownsRow B 228 2 v l.length (l.flatMap fun x=>(wrA x).toList)
theorem WO.push {w:World} {B:Nat} {v:Value} {l:List WR}(h:WO B w v l)(hB:B≤w.heap.size) (x:WR)(hx:x.v.oneCell'=true)(h64:l.length<100000) :
  ∃p c w',(appJ #[v,.slice (some ⟨w.heap.size,0,none⟩) 1 1]).run Tryz.prog (w.alloc (.cells #[.int .i64 x.n,x.v] 228))=.ok (.slice p (l.length+1) c) w'∧WO B w' (.slice p (l.length+1) c) (l++[x])∧Below B w w'∧w.grownBy w' v.ownBlock:=by
 have hal:=(Below.refl B w).alloc hB (.cells #[.int .i64 x.n,x.v] 228)
 obtain⟨i0,hi,hz0,hz1,hz2⟩:=info_parts infoJ
 obtain⟨v',w',hr,ho,hg,-⟩:=run_append_fresh (P:=Tryz.prog) (w.alloc (.cells #[.int .i64 x.n,x.v] 228)) B 150 150 228 i0 _ 2 32 Tryz.underlying150 hi hz0 hz1 hz2 rfl (by decide) v l.length _ (owns_keep h (Go.Joins.below_alloc1 w _)) ⟨w.heap.size,0,none⟩ 1 1 [.int .i64 x.n,x.v] rfl (cells_new w [.int .i64 x.n,x.v] 228) (by intro u hu;simp at hu;rcases hu with rfl|rfl;rfl;exact hx) (by unfold maxLen;omega) (by omega) (Nat.le_trans hB hal.size)
 have ho':WO B w' v' (l++[x]):=by
  unfold WO
  rw[List.length_append,List.flatMap_append]
  exact ho
 obtain⟨p,c,hv⟩:=own_form ho
 subst hv
 exact⟨p,c,w',hr,ho',hal.trans ((Below.refl B _).grown hg (Nat.le_trans hB hal.size) (fun g hgg=>(h.lt g hgg).1)),grown_trans (Below.grownN (Go.Joins.below_alloc1 w _) _) hg⟩
structure TodoL (x:FM) (l:List WR):Prop where
 nd:(l.map (fun y=>y.n)).Nodup
 mem:∀y∈l,∃s,x.td y.n=some s∧y.v=encS (some s)∧y.l=x.tb y.n
 of:∀p s,x.td p=some s→∃y∈l,(y.n:Int)=p
theorem TodoL.perm {x:FM} {l l':List WR}(h:TodoL x l)(hp:l'.Perm l):TodoL x l':=
 ⟨(hp.map _).nodup_iff.2 h.nd,fun y hy=>h.mem y (hp.mem_iff.1 hy),fun p s e=>by
    obtain⟨y,hy,e⟩:=h.of p s e
    exact⟨y,hp.mem_iff.2 hy,e⟩⟩
section
variable {w:World} {c:FC} {x:FM}
attribute [local go_sem ↓] appJ_eq
theorem writes_is (h:FSt w c x)(hna:x.na≤1000)(hdm:∀l:List Nat,l.Nodup→(∀p∈l,(x.td p).isSome=true)→l.length≤12)(hk:∀p s,x.td p=some s→0≤p∧p<256)(h0:∃p s,x.td p=some s):Calls Tryz.prog 62 #[.pointer (some ⟨c.F,0,none⟩)] w fun e w'=>∃g cap l,e=.returned (.slice (some ⟨g,0,none⟩) l.length cap)∧w.heap.size≤g∧SWr w' g cap l∧TodoL x l∧l≠[]∧l.length≤12∧Below w.heap.size w w':=by
 have c5:=h.c5
 have HH:=Lib.hid h
 have HK:=Lib.hid hk
 have H0:=Lib.hid h0
 have HNA:=Lib.hid hna
 have HDM:=Lib.hid hdm
 clear h hk h0 hna hdm
 go_enter Tryz.func62,Tryz.ntmps62
 go_wp2_with (first|(at_range;refine wpList_range_c _ rfl _ 134 rfl _ Tryz.underlying134 rfl HH.out.td ?_;intro w7 cnt7 hc7 hrg7 hg7 hs7)|go_in)
 go_frame
 have HB7:=Lib.hid (below_g0 hg7)
 have HR7:=Lib.hid hrg7
 have HC7:=Lib.hid hc7
 clear hc7 hrg7 hg7 hs7 c5
 go_loopw [3] (fun ov wr=>∃(l:List WR) (lf:Int→Bool) (cnt:Nat) (pp:Option Addr) (cc nn:Nat),ov=.slice pp nn cc∧Hid (nn=l.length)∧Hid (WO (w.heap.size+1) wr (.slice pp nn cc) l)∧Hid (CRng cS wr x.a w.heap.size x.na x.td lf cnt)∧Hid (l.length+cnt≤x.na∧(∀p,lf p=true→(x.td p).isSome=true∧∀y∈l,(y.n:Int)≠p)∧(l.map (fun y=>y.n)).Nodup∧(∀y∈l,∃s,x.td y.n=some s∧y.v=encS (some s)∧y.l=x.tb y.n)∧∀p s,x.td p=some s→lf p=true∨∃y∈l,(y.n:Int)=p)∧Hid (Below w.heap.size w wr)) (fun _ wr=>wr.rangeLeft x.a w.heap.size)
 case atStart=>exact⟨[],_,cnt7,none,0,0,rfl,Lib.hid rfl,Lib.hid (World.ownsRow_nil _ _ _ _),HR7,Lib.hid ⟨by have:=HC7.out;simp;omega,fun p e=>⟨e,fun _ q=>(nomatch q)⟩,by simp,fun _ q=>(nomatch q),fun p s e=>.inl (by rw[e];rfl)⟩,HB7⟩
 case round=>
  clear HR7 HB7 HC7
  obtain⟨l,lf,cnt,pp,cc,nn,rfl,HNN,HO,HR,HM,HB⟩:=hrel
  go_wp2_with (first|(at_next;refine wpList_next_c _ rfl _ rfl (cnt:=cnt) rfl HR.out ?_ ?_)|go_in)
  ·intro hl
   have hT:TodoL x l:=⟨HM.out.2.2.1,HM.out.2.2.2.1,fun p s e=>by
        rcases HM.out.2.2.2.2 p s e with q|q
        · rw[hl p] at q;cases q
        · exact q⟩
   have hne:l≠[]:=by
    obtain⟨p,s,e⟩:=H0.out
    obtain⟨y,hy,_⟩:=hT.of p s e
    exact List.ne_nil_of_mem hy
   obtain⟨g,cap,hvv,hgB,hsr⟩:=SR.of_owns (T:=228) (K:=2) (A:=wrA) HO.out wrA_size rfl hne
   injection hvv with e1 e2 e3
   subst e1 e2 e3
   have hgl:=hsr.lt
   obtain⟨n,hn⟩:∃n,n=l.length:=⟨_,rfl⟩
   have hn12:n≤12:=by
    rw[hn]
    have:=HDM.out (l.map fun y=>y.n) hT.nd (fun p hp=>by
          obtain⟨y,hy,e⟩:=List.mem_map.1 hp
          obtain⟨s,h1,_⟩:=hT.mem y hy
          rw[← e,h1];rfl)
    rw[List.length_map] at this
    exact this
   have HSO:=Lib.hid (sortWr_is (g:=g) (fun _=>True) (fun _ _ _ _=>trivial) (fun w a b _ ha hb=>cmpW_is w a b ha hb) hsr trivial (fun y hy=>by
        obtain⟨s,h1,h2,_⟩:=hT.mem y hy
        refine⟨by rw[h2];rfl,?_⟩
        have:=HK.out _ s h1
        omega) hn hn12)
   rw[← hn]
   have HQ:=Lib.hid (And.intro hT (And.intro hgB (And.intro hn (And.intro hn12 hne))))
   clear hT hne hsr hn HO HR HM hl
   go_wp2_with (go_at_call 135;refine HSO.out.mono ?_;rintro e8 w8 ⟨rfl,HL8,HU8⟩)
   go_ret
   obtain⟨l',hp,hs'⟩:=HL8
   have hll:=hp.length_eq
   refine⟨g,_,l',by rw[hll,← HQ.out.2.2.1];rfl,by have:=HQ.out.2.1;omega,hs',HQ.out.1.perm hp,fun e=>?_,by rw[hll,← HQ.out.2.2.1];exact HQ.out.2.2.2.1,?_⟩
   ·rw[e] at hll
    exact HQ.out.2.2.2.2 (List.length_eq_zero_iff.1 hll.symm)
   ·exact⟨HU8.os.trans HB.out.os,HU8.tape.trans HB.out.tape,HU8.output.trans HB.out.output,Nat.le_trans HB.out.size HU8.size,fun k hk=>(HU8.block k (Nat.lt_of_lt_of_le hk HB.out.size) (fun e=>by have:=HQ.out.2.1;omega)).trans (HB.out.block k hk)⟩
  ·intro k sb so sn sc w8 cnt8 hwf hlf hfk hrg8 hlt8 hg8 hs8 hen8
   obtain⟨m,rfl⟩:∃m:Nat,k=m:=⟨k.toNat,by have:=HK.out k _ hfk;omega⟩
   have hm256:=(HK.out _ _ hfk).2
   change _=Result.ok (Value.tuple #[.int .i64 m,encS (some (sb,so,sn,sc))]) w8 at hen8
   have hB8:Below w.heap.size w w8:=HB.out.grown hg8 HB.out.size (fun k e=>by injection e with e;omega)
   have hWO8:WO (w.heap.size+1) w8 (.slice pp nn cc) l:=(Upd.grown hg8 (S:=fun k=>k=w.heap.size) rfl).owns HO.out (fun g e q=>by have:=(HO.out.lt g e).1;omega)
   have hsz:w.heap.size+1≤w8.heap.size:=hrg8.rlt
   obtain⟨p9,c9,w9,hap,hwo9,hb9,hg9⟩:=hWO8.push hsz ⟨m,encS (some (sb,so,sn,sc)),x.tb m⟩ rfl (by have:=HM.out.1;have:=HNA.out;omega)
   have hrg9:CRng cS w9 x.a w.heap.size x.na x.td (fun j=>lf j && !decide (j=(m:Int))) cnt8:=by
    have hxa:x.a<w.heap.size:=HH.out.lt _ (HH.out.bm _ (.inr (.inl rfl)))
    exact hrg8.kept hg9 (fun e=>by have:=(hWO8.lt _ e.symm).1;omega) (fun e=>by have:=(hWO8.lt _ e.symm).1;omega)
   have HB9:=Lib.hid (hB8.trans (hb9.mono (by omega)))
   have HWO9:=Lib.hid hwo9
   have HR9:=Lib.hid hrg9
   have HLT:=Lib.hid (And.intro hlt8 (And.intro hrg9.left HR.out.left))
   rw[← HNN.out] at hap
   have HM9:Hid ((l++[(⟨m,encS (some (sb,so,sn,sc)),x.tb m⟩:WR)]).length+cnt8≤x.na∧(∀p,(lf p && !decide (p=(m:Int)))=true→(x.td p).isSome=true∧∀y∈l++[(⟨m,encS (some (sb,so,sn,sc)),x.tb m⟩:WR)],(y.n:Int)≠p)∧((l++[(⟨m,encS (some (sb,so,sn,sc)),x.tb m⟩:WR)]).map (fun y=>y.n)).Nodup∧(∀y∈l++[(⟨m,encS (some (sb,so,sn,sc)),x.tb m⟩:WR)],∃s,x.td y.n=some s∧y.v=encS (some s)∧y.l=x.tb y.n)∧∀p s,x.td p=some s→(lf p && !decide (p=(m:Int)))=true∨∃y∈l++[(⟨m,encS (some (sb,so,sn,sc)),x.tb m⟩:WR)],(y.n:Int)=p):=Lib.hid (by
        obtain⟨a1,a2,a3,a4,a5⟩:=HM.out
        refine⟨by rw[List.length_append,List.length_singleton];omega,fun p hp=>?_,?_,fun y hy=>?_,fun p s e=>?_⟩
        · rw[Bool.and_eq_true] at hp
          obtain⟨hp1,hp2⟩:=hp
          have hpm:¬p=(m:Int):=by simpa using hp2
          refine⟨(a2 p hp1).1,fun y hy=>?_⟩
          rcases List.mem_append.1 hy with q|q
          · exact(a2 p hp1).2 y q
          · rw[List.mem_singleton] at q
            rw[q]
            exact fun e=>hpm e.symm
        · rw[List.map_append,List.nodup_append]
          refine⟨a3,by simp,fun a ha b hb=>?_⟩
          rw[List.map_singleton,List.mem_singleton] at hb
          obtain⟨y,hy,rfl⟩:=List.mem_map.1 ha
          rw[hb]
          intro e
          exact(a2 _ hlf).2 y hy (by rw[e])
        · rcases List.mem_append.1 hy with q|q
          · exact a4 y q
          · rw[List.mem_singleton] at q
            rw[q]
            exact⟨_,hfk,rfl,rfl⟩
        · rcases a5 p s e with q|⟨y,hy,q⟩
          · by_cases e2:p=(m:Int)
            · exact .inr ⟨_,List.mem_append_right _ (List.mem_singleton.2 rfl),e2.symm⟩
            · exact .inl (by rw[q];simp[e2])
          · exact .inr ⟨y,List.mem_append_left _ hy,q⟩)
   clear hg9 hwf hfk hrg8 hlt8 hg8 hs8 hlf hwo9 hb9 hrg9 hB8 hWO8 hsz
   change (appJ #[.slice pp nn cc,.slice (some ⟨w8.heap.size,0,none⟩) 1 1]).run Tryz.prog (w8.alloc (.cells #[.int .i64 m,.slice (some ⟨sb,so,none⟩) sn sc] 228))=.ok (.slice p9 (nn+1) c9) w9 at hap
   change _=Result.ok (Value.tuple #[.int .i64 m,.slice (some ⟨sb,so,none⟩) sn sc]) w8 at hen8
   go_wp2_with fail
   go_roundw
   case rel=>exact⟨_,_,_,p9,c9,nn+1,rfl,Lib.hid (by rw[HNN.out];simp),by rw[HNN.out];exact HWO9,HR9,HM9,HB9⟩
   case measure=>have:=HLT.out;omega
end
structure WrOk (l:List WR):Prop where
 nd:(l.map (fun y=>y.n)).Nodup
 pos:∀y∈l,y.n<256∧(y.n<5∨37≤y.n)
 v:∀y∈l,∃a k,y.v=.slice (some a) 64 k
 le:l.length≤12
theorem encT_bb (o:Option Unit):encT o=.bool o.isSome:=by cases o <;> rfl
def LogR (w:World) (L D:Nat) (q:Int):Prop:=Row w L 230 #[.pointer (some ⟨D,0,none⟩),.int .i64 5,.int .i64 32,.int .u32 q]
section
variable {w:World} {D sb nb L:Nat} {wv:Value} {s f:List Int} {wc:List WR} {q:Int} {g cap:Nat} {l:List WR} {m:Nat}
theorem room2_is (h:LogR w L D q):Calls Tryz.prog 199 #[.pointer (some ⟨L,0,none⟩)] w fun e w'=>e=.returned (.int .i64 30)∧w=w':=by
 have c2:w.cell? ⟨L,2,none⟩=some (.int .i64 32):=by rw[Row.cell h];rfl
 clear h
 go_enter Tryz.func199,Tryz.ntmps199
 go_wp2_with fail
 go_ret
 exact⟨rfl,rfl⟩
theorem jright_is (hl:LogR w L D q)(hd:Dk w D sb nb wv m 256 s f)(hs:SWr w g cap l)(ho:WrOk l) {n:Nat}(hn:n=l.length):Calls Tryz.prog 131 #[.pointer (some ⟨L,0,none⟩),.slice (some ⟨g,0,none⟩) n cap] w fun e w'=>e=.returned (.int .i64 0)∧Below w.heap.size w w':=by
 have hmm:=@run_makeMap Tryz.prog
 have HRM:=Lib.hid (room2_is hl)
 have HLG:=Lib.hid hl
 have HD:=Lib.hid hd
 have HS:=Lib.hid hs
 have HO:=Lib.hid ho
 have HN:=Lib.hid hn
 have n12:¬(30:Int)<n:=by have:=ho.le;omega
 have hcap:n≤cap:=by rw[hn];exact hs.le
 clear hl hd hs ho hn
 go_enter Tryz.func131,Tryz.ntmps131
 go_wp2_with (go_at_call 199;refine HRM.out.mono ?_;rintro e1 w1 ⟨rfl,rfl⟩)
 have HB0:=Lib.hid ((Below.refl w.heap.size w).alloc (Nat.le_refl _) (.map #[] 0))
 have HM0:=Lib.hid (CMap.made (c:=cT) w)
 go_loopw [16] (fun iv wr=>∃(i k:Nat) (S:Int→Option Unit),i≤n∧iv=.int .i64 i∧Hid (CMap cT wr w.heap.size k S)∧Hid (k≤i∧∀p:Nat,(S p).isSome=true→∃y∈l.take i,y.n=p)∧Hid (Below w.heap.size w wr)) (fun iv _=>n-(intOf iv).toNat)
 case atStart=>exact⟨0,0,fun _=>none,by omega,by simp,HM0,Lib.hid ⟨Nat.le_refl _,fun p e=>by cases e⟩,HB0⟩
 case round=>
  clear HM0 HB0
  obtain⟨i,k,S,hi,rfl,HM,HK,HB⟩:=hrel
  by_cases hlt:i<n
  ·have hji:(i:Int)<n:=by omega
   obtain⟨x,hx⟩:∃x,l[i]?=some x:=⟨_,List.getElem?_eq_getElem (by have:=HN.out;omega)⟩
   have hxm:=List.mem_of_getElem? hx
   have hW:=HS.out.keep HB.out
   have kk0:=hW.cell hx (j:=0) (by decide)
   have kk1:=hW.cell hx (j:=1) (by decide)
   obtain⟨a,vc,hve⟩:=HO.out.v x hxm
   have hno:(S x.n).isSome=false:=by
    rcases e:(S x.n).isSome with _|_
    ·rfl
    ·exfalso
     obtain⟨y,hy,e2⟩:=HK.out.2 x.n e
     have hnd:=HO.out.nd
     obtain⟨j,hj⟩:=List.getElem?_of_mem hy
     rw[List.getElem?_take] at hj
     split at hj
     ·rename_i hji2
      have hjl:j<l.length:=(List.getElem?_eq_some_iff.1 hj).1
      have hil:i<l.length:=(List.getElem?_eq_some_iff.1 hx).1
      have hq:=(List.getElem?_inj (l:=l.map (fun y=>y.n)) (by simpa using hjl) hnd).1 (show (l.map (fun y=>y.n))[j]?=(l.map (fun y=>y.n))[i]? by rw[List.getElem?_map,List.getElem?_map,hj,hx];simp[e2])
      omega
     ·cases hj
   obtain⟨hx256,hx5⟩:=HO.out.pos x hxm
   have k0:wr.cell? ⟨g,i*2,none⟩=some (.int .i64 x.n):=kk0
   have k1:wr.cell? ⟨g,i*2+1,none⟩=some (.slice (some a) 64 vc):=by rw[kk1];show some x.v=_;rw[hve]
   have HX:=Lib.hid hx
   have HNO:=Lib.hid hno
   obtain⟨xn,hxn⟩:∃xn,xn=x.n:=⟨_,rfl⟩
   rw[← hxn] at k0 hx256 hx5 HNO
   have HXN:=Lib.hid hxn
   have hal:=Go.Joins.below_alloc1 wr (.cells #[.int .i64 xn,.slice (some a) 64 vc] 228)
   have HB1:=Lib.hid (HB.out.trans (hal.mono HB.out.size))
   have HM1:=Lib.hid (HM.out.keep hal)
   have HR:=Lib.hid (row_new wr 228 #[.int .i64 xn,.slice (some a) 64 vc])
   have HD1:=Lib.hid (HD.out.keep HB1.out)
   have HL1:Hid (LogR (wr.alloc (.cells #[.int .i64 xn,.slice (some a) 64 vc] 228)) L D q):=Lib.hid (Row.keep HLG.out HB1.out)
   obtain⟨pn,hpn⟩:∃pn,pn=wr.heap.size:=⟨_,rfl⟩
   rw[← hpn] at HR
   clear hx hno hxn kk0 kk1 hal hW hve hxm
   go_upto_region 7 with fail
   rw[← hpn]
   clear k0 k1 hpn
   generalize wr.alloc (.cells #[.int .i64 xn,.slice (some a) 64 vc] 228)=w2 at *
   have d0:w2.cell? ⟨pn,0,none⟩=some (.int .i64 xn):=by rw[HR.out.cell];rfl
   have d1:w2.cell? ⟨pn,1,none⟩=some (.slice (some a) 64 vc):=by rw[HR.out.cell];rfl
   have l0:w2.cell? ⟨L,0,none⟩=some (.pointer (some ⟨D,0,none⟩)):=by rw[Row.cell HL1.out];rfl
   have l1:w2.cell? ⟨L,1,none⟩=some (.int .i64 5):=by rw[Row.cell HL1.out];rfl
   have l2:w2.cell? ⟨L,2,none⟩=some (.int .i64 32):=by rw[Row.cell HL1.out];rfl
   have HSZ:Hid (∀w,Dk w D sb nb wv m 256 s f→Calls Tryz.prog 40 #[.pointer (some ⟨D,0,none⟩)] w fun e w'=>e=.returned (.int .i64 256)∧w'=w):=Lib.hid (fun w hw=>(size_is hw).mono (fun e w' h=>⟨h.1,h.2.symm⟩))
   have t0:decide ((xn:Int)<0)=false:=decide_eq_false (by omega)
   have t1:decide ((256:Int)≤(xn:Int))=false:=decide_eq_false (by omega)
   have t1':¬(256:Int)≤(xn:Int):=by omega
   rcases hx5 with h5|h5
   ·have t2:decide ((5:Int)≤(xn:Int))=false:=decide_eq_false (by omega)
    have t2':¬(5:Int)≤(xn:Int):=by omega
    have HX256:=Lib.hid hx256
    clear hx256 h5
    go_quiet (first|(go_at_call 40;(with_reducible refine Calls.quiet_of_same (HSZ.out _ HD1.out)))|(go_at_call 40;(with_reducible refine Calls.quiet_of_same (HSZ.out _ (HD1.out.keep (below_drewN (Below.refl _ _) _))))))
    have hB3:Below w2.heap.size w2 (w2.drewN nq):=below_drewN (Below.refl _ _) nq
    have hm3:=HM1.out.keep hB3
    have hwf:(Lit.int .i64 (xn:Int)).wf=true:=WalkArith.wf_i64 (by have:=HX256.out;omega)
    have lk:=hm3.look (T:=241) Tryz.underlying241 (zeroT _) hwf
    rw[show cT.enc (S xn)=.bool false by show encT (S xn)=_;rw[encT_bb,HNO.out]] at lk
    obtain⟨w4,hput,hm4,hg4⟩:=hm3.put (T:=241) Tryz.underlying241 hwf (by have:=HK.out.1;have:=hlt;unfold maxLen;omega) ()
    change (Instr.mapUpdate 241 (.map (some w.heap.size)) (.int .i64 xn) (.bool true)).run Tryz.prog _=_ at hput
    have e0:(w2.drewN nq).cell? ⟨pn,0,none⟩=some (.int .i64 xn):=d0
    have HM4:=Lib.hid hm4
    have HB4:Hid (Below w.heap.size w w4):=Lib.hid ((HB1.out.trans (hB3.mono HB1.out.size)).grown hg4 (Nat.le_trans HB1.out.size hB3.size) (fun k e=>by injection e with e;omega))
    clear hB3 hm3 hwf hm4 hg4 d0 d1 l0 l1 l2
    generalize w2.drewN nq=w3 at *
    go_wp2_with fail
    go_roundw
    case rel=>
     refine⟨i+1,k+1,_,by omega,by go_num,HM4,Lib.hid ⟨by have:=HK.out.1;omega,fun p e=>?_⟩,HB4⟩
     rw[List.take_add_one,HX.out,Option.toList_some]
     by_cases e2:(p:Int)=xn
     ·exact⟨x,by simp,by have:=HXN.out;omega⟩
     ·rw[if_neg e2] at e
      obtain⟨y,hy,e3⟩:=HK.out.2 p e
      exact⟨y,List.mem_append_left _ hy,e3⟩
    case measure=>simp[intOf];omega
   ·have t2:decide ((5:Int)≤(xn:Int))=true:=decide_eq_true (by omega)
    have t2':(5:Int)≤(xn:Int):=by omega
    have t3:decide ((xn:Int)<37)=false:=decide_eq_false (by omega)
    have t3':¬(xn:Int)<37:=by omega
    have HX256:=Lib.hid hx256
    clear hx256 h5
    go_quiet (first|(go_at_call 40;(with_reducible refine Calls.quiet_of_same (HSZ.out _ HD1.out)))|(go_at_call 40;(with_reducible refine Calls.quiet_of_same (HSZ.out _ (HD1.out.keep (below_drewN (Below.refl _ _) _))))))
    have hB3:Below w2.heap.size w2 (w2.drewN nq):=below_drewN (Below.refl _ _) nq
    have hm3:=HM1.out.keep hB3
    have hwf:(Lit.int .i64 (xn:Int)).wf=true:=WalkArith.wf_i64 (by have:=HX256.out;omega)
    have lk:=hm3.look (T:=241) Tryz.underlying241 (zeroT _) hwf
    rw[show cT.enc (S xn)=.bool false by show encT (S xn)=_;rw[encT_bb,HNO.out]] at lk
    obtain⟨w4,hput,hm4,hg4⟩:=hm3.put (T:=241) Tryz.underlying241 hwf (by have:=HK.out.1;have:=hlt;unfold maxLen;omega) ()
    change (Instr.mapUpdate 241 (.map (some w.heap.size)) (.int .i64 xn) (.bool true)).run Tryz.prog _=_ at hput
    have e0:(w2.drewN nq).cell? ⟨pn,0,none⟩=some (.int .i64 xn):=d0
    have HM4:=Lib.hid hm4
    have HB4:Hid (Below w.heap.size w w4):=Lib.hid ((HB1.out.trans (hB3.mono HB1.out.size)).grown hg4 (Nat.le_trans HB1.out.size hB3.size) (fun k e=>by injection e with e;omega))
    clear hB3 hm3 hwf hm4 hg4 d0 d1 l0 l1 l2
    generalize w2.drewN nq=w3 at *
    go_wp2_with fail
    go_roundw
    case rel=>
     refine⟨i+1,k+1,_,by omega,by go_num,HM4,Lib.hid ⟨by have:=HK.out.1;omega,fun p e=>?_⟩,HB4⟩
     rw[List.take_add_one,HX.out,Option.toList_some]
     by_cases e2:(p:Int)=xn
     ·exact⟨x,by simp,by have:=HXN.out;omega⟩
     ·rw[if_neg e2] at e
      obtain⟨y,hy,e3⟩:=HK.out.2 p e
      exact⟨y,List.mem_append_left _ hy,e3⟩
    case measure=>simp[intOf];omega
  ·obtain rfl:i=n:=by omega
   go_wp2_with fail
   go_ret
   exact⟨rfl,HB.out⟩
end
section
variable {w:World} {g cap:Nat} {l:List WR}
theorem lright_is (hs:SRq w g cap l)(hp:∀y∈l,y.n<256)(hv:∀y∈l,∃a k,y.v=.slice a 64 k) {n:Nat}(hn:n=l.length)(h12:n≤12):Calls Tryz.prog 269 #[.slice (some ⟨g,0,none⟩) n cap] w fun e w'=>e=.returned (.int .i64 0)∧Below w.heap.size w w':=by
 have HS:=Lib.hid hs
 have HP:=Lib.hid hp
 have HV:=Lib.hid hv
 have HN:=Lib.hid hn
 have n100:¬(100:Int)<n:=by omega
 have hcap:n≤cap:=by rw[hn];exact hs.le
 clear hs hp hv hn
 go_enter Tryz.func269,Tryz.ntmps269
 go_wp2_with fail
 go_loopw [10] (fun iv wr=>∃i:Nat,i≤n∧iv=.int .i64 i∧Hid (Below w.heap.size w wr)) (fun iv _=>n-(intOf iv).toNat)
 case atStart=>exact⟨0,by omega,by simp,Lib.hid (Below.refl _ _)⟩
 case round=>
  obtain⟨i,hi,rfl,HB⟩:=hrel
  by_cases hlt:i<n
  ·have hji:(i:Int)<n:=by omega
   obtain⟨x,hx⟩:∃x,l[i]?=some x:=⟨_,List.getElem?_eq_getElem (by have:=HN.out;omega)⟩
   have hxm:=List.mem_of_getElem? hx
   have hW:=HS.out.keep HB.out
   have kk0:=hW.cell hx (j:=0) (by decide)
   have kk1:=hW.cell hx (j:=1) (by decide)
   have kk2:=hW.cell hx (j:=2) (by decide)
   obtain⟨a,vc,hve⟩:=HV.out x hxm
   have hx256:=HP.out x hxm
   have k0:wr.cell? ⟨g,i*3,none⟩=some (.int .i64 x.n):=kk0
   have k1:wr.cell? ⟨g,i*3+1,none⟩=some (.slice a 64 vc):=by rw[kk1];show some x.v=_;rw[hve]
   have k2:wr.cell? ⟨g,i*3+2,none⟩=some (.bool false):=kk2
   generalize x.n=xn at *
   have t0:decide ((xn:Int)<0)=false:=decide_eq_false (by omega)
   have t1:decide ((256:Int)≤(xn:Int))=false:=decide_eq_false (by omega)
   have t1':¬(256:Int)≤(xn:Int):=by omega
   have HB1:=Lib.hid (HB.out.trans ((Go.Joins.below_alloc1 wr (.cells #[.int .i64 xn,.slice a 64 vc,.bool false] 256)).mono HB.out.size))
   have hr:=row_new wr 256 #[.int .i64 xn,.slice a 64 vc,.bool false]
   have d0:(wr.alloc (.cells #[.int .i64 xn,.slice a 64 vc,.bool false] 256)).cell? ⟨wr.heap.size,0,none⟩=some (.int .i64 xn):=by rw[hr.cell];rfl
   have d1:(wr.alloc (.cells #[.int .i64 xn,.slice a 64 vc,.bool false] 256)).cell? ⟨wr.heap.size,1,none⟩=some (.slice a 64 vc):=by rw[hr.cell];rfl
   have d2:(wr.alloc (.cells #[.int .i64 xn,.slice a 64 vc,.bool false] 256)).cell? ⟨wr.heap.size,2,none⟩=some (.bool false):=by rw[hr.cell];rfl
   clear hx hxm hW kk0 kk1 kk2 hve hr
   go_wp2_with fail
   go_roundw
   case rel=>exact⟨i+1,by omega,by go_num,HB1⟩
   case measure=>simp[intOf];omega
  ·obtain rfl:i=n:=by omega
   go_wp2_with fail
   go_ret
   exact⟨rfl,HB.out⟩
theorem barr_is (w:World) (n:Int) (a:Option Addr) (k m:Nat):Calls Tryz.prog 271 #[.agg #[.int .i64 n,.slice a k m,.bool false]] w fun e w'=>e=.returned (.bool false)∧Below w.heap.size w w':=by
 have hr:=row_new w 256 #[.int .i64 n,.slice a k m,.bool false]
 have d2:(w.alloc (.cells #[.int .i64 n,.slice a k m,.bool false] 256)).cell? ⟨w.heap.size,2,none⟩=some (.bool false):=by rw[hr.cell];rfl
 have HB:=Lib.hid (Go.Joins.below_alloc1 w (.cells #[.int .i64 n,.slice a k m,.bool false] 256))
 clear hr
 go_enter Tryz.func271,Tryz.ntmps271
 go_wp2_with fail
 go_ret
 exact⟨rfl,HB.out⟩
theorem lidx_is (hs:SRq w g cap l)(hv:∀y∈l,∃a k,y.v=.slice a 64 k) {n:Nat}(hn:n=l.length)(h12:n≤12):Calls Tryz.prog 270 #[.slice (some ⟨g,0,none⟩) n cap,.func (Fn.func 271) #[] #[]] w fun e w'=>e=.returned (.int .i64 (-1))∧Below w.heap.size w w':=by
 have HS:=Lib.hid hs
 have HV:=Lib.hid hv
 have HN:=Lib.hid hn
 have HBR:=Lib.hid barr_is
 have hcap:n≤cap:=by rw[hn];exact hs.le
 clear hs hv hn
 go_enter Tryz.func270,Tryz.ntmps270
 go_wp2_with fail
 go_loopw [8] (fun iv wr=>∃i:Nat,i≤n∧iv=.int .i64 i∧Hid (Below w.heap.size w wr)) (fun iv _=>n-(intOf iv).toNat)
 case atStart=>exact⟨0,by omega,by simp,Lib.hid (Below.refl _ _)⟩
 case round=>
  obtain⟨i,hi,rfl,HB⟩:=hrel
  by_cases hlt:i<n
  ·have hji:(i:Int)<n:=by omega
   obtain⟨x,hx⟩:∃x,l[i]?=some x:=⟨_,List.getElem?_eq_getElem (by have:=HN.out;omega)⟩
   have hxm:=List.mem_of_getElem? hx
   have hW:=HS.out.keep HB.out
   have kk0:=hW.cell hx (j:=0) (by decide)
   have kk1:=hW.cell hx (j:=1) (by decide)
   have kk2:=hW.cell hx (j:=2) (by decide)
   obtain⟨a,vc,hve⟩:=HV.out x hxm
   have k0:wr.cell? ⟨g,i*3,none⟩=some (.int .i64 x.n):=kk0
   have k1:wr.cell? ⟨g,i*3+1,none⟩=some (.slice a 64 vc):=by rw[kk1];show some x.v=_;rw[hve]
   have k2:wr.cell? ⟨g,i*3+2,none⟩=some (.bool false):=kk2
   generalize x.n=xn at *
   have HC:=Lib.hid (HBR.out wr xn a 64 vc)
   clear hx hxm hW kk0 kk1 kk2 hve
   go_wp2_with (go_at_call 271;(with_reducible refine HC.out.mono ?_);rintro e3 w3 ⟨rfl,hb3⟩;have HB3:=Lib.hid (HB.out.trans (hb3.mono HB.out.size));clear hb3)
   go_roundw
   case rel=>exact⟨i+1,by omega,by go_num,HB3⟩
   case measure=>simp[intOf];omega
  ·obtain rfl:i=n:=by omega
   go_wp2_with fail
   go_ret
   exact⟨rfl,HB.out⟩
end
end Go.Proofs.YtfkepfncgdlgoaaGreatDoor
