/- The walk of lift.part at requests to different sectors: the same, each with a copy of its bytes, in some order. The walk of lift.Order at requests to different sectors, from sector 0 on. -/
import Derived.Test.YtfkepfncgdlgoaaGreatDoorLfA
namespace Go.Proofs.YtfkepfncgdlgoaaGreatDoor
open Go.RowKit Go.Maps
set_option linter.unusedVariables false
set_option linter.unusedSimpArgs false
set_option maxRecDepth 100000
set_option maxHeartbeats 4000000
def appR:=Builtin.append_ #[254,254] 254
theorem appR_eq:Builtin.append_ #[254,254] 254=appR:=rfl
theorem infoRq:(Tryz.prog.info? 256).map (fun i=>(i.zero,i.size,i.bytes))=some (some (.agg #[.int .i64 0,.slice none 0 0,.bool false]),3,40):=by kernel_rfl
def RO (B:Nat) (w:World) (v:Value) (l:List WR):Prop:=w.ownsRow B 256 3 v l.length (l.flatMap fun x=>(rqA x).toList)
theorem RO.push {w:World} {B:Nat} {v:Value} {l:List WR}(h:RO B w v l)(hB:B≤w.heap.size) (x:WR)(hx:x.v.oneCell'=true)(h64:l.length<100000) :
  ∃p c w',(appR #[v,.slice (some ⟨w.heap.size,0,none⟩) 1 1]).run Tryz.prog (w.alloc (.cells #[.int .i64 x.n,x.v,.bool false] 256))=.ok (.slice p (l.length+1) c) w'∧RO B w' (.slice p (l.length+1) c) (l++[x])∧Below B w w'∧w.grownBy w' v.ownBlock∧((Value.slice p (l.length+1) c).ownBlock=v.ownBlock∨∃g,w.heap.size≤g∧(Value.slice p (l.length+1) c).ownBlock=some g):=by
 have hal:=(Below.refl B w).alloc hB (.cells #[.int .i64 x.n,x.v,.bool false] 256)
 obtain⟨i0,hi,hz0,hz1,hz2⟩:=info_parts infoRq
 obtain⟨v',w',hr,ho,hg,hfr⟩:=run_append_fresh (P:=Tryz.prog) (w.alloc (.cells #[.int .i64 x.n,x.v,.bool false] 256)) B 254 254 256 i0 _ 3 40 Tryz.underlying254 hi hz0 hz1 hz2 rfl (by decide) v l.length _ (owns_keep h (Go.Joins.below_alloc1 w _)) ⟨w.heap.size,0,none⟩ 1 1 [.int .i64 x.n,x.v,.bool false] rfl (cells_new w [.int .i64 x.n,x.v,.bool false] 256) (by intro u hu;simp at hu;rcases hu with rfl|rfl|rfl;rfl;exact hx;rfl) (by unfold maxLen;omega) (by omega) (Nat.le_trans hB hal.size)
 have ho':RO B w' v' (l++[x]):=by
  unfold RO
  rw[List.length_append,List.flatMap_append]
  exact ho
 obtain⟨p,c,hv⟩:=own_form ho
 subst hv
 exact⟨p,c,w',hr,ho',hal.trans ((Below.refl B _).grown hg (Nat.le_trans hB hal.size) (fun g hgg=>(h.lt g hgg).1)),grown_trans (Below.grownN (Go.Joins.below_alloc1 w _) _) hg,by
    rcases hfr with e|⟨g,q,e⟩
    · exact .inl e
    · exact .inr ⟨g,Nat.le_trans hal.size q,e⟩⟩
def SameW (l l':List WR):Prop:=(l'.map fun y=>(y.n,y.l)).Perm (l.map fun y=>(y.n,y.l))
theorem nodup_pair {l:List WR}(h:(l.map fun y=>y.n).Nodup):(l.map fun y=>(y.n,y.l)).Nodup:=by
 have:(l.map fun y=>y.n)=(l.map fun y=>(y.n,y.l)).map Prod.fst:=by rw[List.map_map];rfl
 rw[this] at h
 unfold List.Nodup at h ⊢
 rw[List.pairwise_map] at h
 exact h.imp (fun hne e=>hne (by rw[e]))
theorem nodup_inj {l:List WR}(h:(l.map fun y=>y.n).Nodup) {x y:WR}(hx:x∈l)(hy:y∈l) (e:x.n=y.n):x=y:=by
 obtain⟨i,hi⟩:=List.getElem?_of_mem hx
 obtain⟨j,hj⟩:=List.getElem?_of_mem hy
 have hil:=(List.getElem?_eq_some_iff.1 hi).1
 have:=(List.getElem?_inj (l:=l.map fun y=>y.n) (i:=i) (j:=j) (by simpa using hil) h).1 (by rw[List.getElem?_map,List.getElem?_map,hi,hj];simp[e])
 rw[this,hj] at hi
 exact(Option.some.inj hi).symm
structure PInv (l:List WR) (S:Int→Option SL) (k r:Nat) (wr:World) (v:Value) (l2:List WR) (lf:Int→Bool) (cnt:Nat):Prop where
 c:l2.length+cnt≤k
 a:∀p,lf p=true→(S p).isSome=true∧∀y∈l2,(y.n:Int)≠p
 nd:(l2.map fun y=>y.n).Nodup
 m:∀y∈l2,∃x∈l,x.n=y.n∧x.l=y.l
 o:∀p s,S p=some s→lf p=true∨∃y∈l2,(y.n:Int)=p
 v:∀y∈l2,At (Value.int .u8) 0 wr y.v y.l∧∃b c,y.v=.slice (some ⟨b,0,none⟩) 64 c∧r<b∧b<wr.heap.size∧v.ownBlock≠some b
theorem PInv.step {l:List WR} {S:Int→Option SL} {k r m cnt cnt':Nat} {wr w':World} {v v':Value} {l2:List WR} {lf:Int→Bool} {x y:WR}(h:PInv l S k r wr v l2 lf cnt)(hlf:lf m=true)(hc:cnt'<cnt)(hx:x∈l)(hxn:x.n=m)(hyn:y.n=m)(hyl:y.l=x.l)
  (hu:Upd (fun j=>v.ownBlock=some j∨j=r) wr w') (hy:At (Value.int .u8) 0 w' y.v y.l∧∃b c,y.v=.slice (some ⟨b,0,none⟩) 64 c∧r<b∧b<w'.heap.size∧v'.ownBlock≠some b)
  (hv:∀b,b<wr.heap.size→v.ownBlock≠some b→v'.ownBlock≠some b):PInv l S k r w' v' (l2++[y]) (fun j=>lf j && !decide (j=(m:Int))) cnt':=by
 refine⟨by have:=h.c;rw[List.length_append,List.length_singleton];omega,fun p hp=>?_,?_,fun z hz=>?_,fun p s e=>?_,fun z hz=>?_⟩
 ·rw[Bool.and_eq_true] at hp
  obtain⟨hp1,hp2⟩:=hp
  have hpm:¬p=(m:Int):=by simpa using hp2
  refine⟨(h.a p hp1).1,fun z hz=>?_⟩
  rcases List.mem_append.1 hz with q|q
  ·exact(h.a p hp1).2 z q
  ·rw[List.mem_singleton] at q
   rw[q,hyn]
   exact fun e=>hpm e.symm
 ·rw[List.map_append,List.nodup_append]
  refine⟨h.nd,by simp,fun a ha b hb=>?_⟩
  rw[List.map_singleton,List.mem_singleton] at hb
  obtain⟨z,hz,rfl⟩:=List.mem_map.1 ha
  rw[hb,hyn]
  intro e
  exact(h.a _ hlf).2 z hz (by rw[e])
 ·rcases List.mem_append.1 hz with q|q
  ·exact h.m z q
  ·rw[List.mem_singleton] at q
   rw[q]
   exact⟨x,hx,by rw[hxn,hyn],hyl.symm⟩
 ·rcases h.o p s e with q|⟨z,hz,q⟩
  ·by_cases e2:p=(m:Int)
   ·exact .inr ⟨y,List.mem_append_right _ (List.mem_singleton.2 rfl),by rw[hyn,e2]⟩
   ·exact .inl (by rw[q];simp[e2])
  ·exact .inr ⟨z,List.mem_append_left _ hz,q⟩
 ·rcases List.mem_append.1 hz with q|q
  ·obtain⟨h1,b,c,h2,h3,h4,h5⟩:=h.v z q
   refine⟨h1.updW hu (fun j e=>?_),b,c,h2,h3,Nat.lt_of_lt_of_le h4 hu.size,hv b h4 h5⟩
   rw[h2] at e
   have e3:b=j:=Option.some.inj e
   subst e3
   rintro (q2|q2)
   ·exact h5 q2
   ·omega
  ·rw[List.mem_singleton] at q
   rw[q]
   exact hy
section
variable {w:World} {g cap:Nat} {l:List WR}
attribute [local go_sem ↓] appR_eq
theorem part_is (hs:SRq w g cap l)(ho:WrOk l)(hok:WsOk (fun j=>j=g) w l)(h0:l≠[]) {n:Nat}(hn:n=l.length):Calls Tryz.prog 272 #[.slice (some ⟨g,0,none⟩) n cap,.int .i64 0] w fun e w'=>∃g' cap' l' k,e=.returned (.tuple #[.slice (some ⟨g',0,none⟩) l'.length cap',.int .i64 k])∧w.heap.size≤g'∧SRq w' g' cap' l'∧SameW l l'∧(∀y∈l',At (Value.int .u8) 0 w' y.v y.l∧∀j,y.v.ownBlock=some j→w.heap.size≤j∧j≠g')∧Below w.heap.size w w':=by
 have hmm:=@run_makeMap Tryz.prog
 have HS:=Lib.hid hs
 have HO:=Lib.hid ho
 have HK:=Lib.hid hok
 have HN:=Lib.hid hn
 have H0:=Lib.hid h0
 have hcap:n≤cap:=by rw[hn];exact hs.le
 have hn12:(n:Int)≤12:=by have:=ho.le;omega
 clear hs ho hok hn h0
 go_enter Tryz.func272,Tryz.ntmps272
 go_wp2_with fail
 have hw2:Below w.heap.size w ((w.alloc (.cells #[.int .i64 0] 3)).alloc (.map #[] 0)):=((Below.refl _ _).alloc (Nat.le_refl _) _).alloc (by simp) _
 have HB0:=Lib.hid hw2
 have HM0:Hid (CMap cS ((w.alloc (.cells #[.int .i64 0] 3)).alloc (.map #[] 0)) (w.heap.size+1) 0 (fun _=>none)):=Lib.hid (by have:=CMap.made (c:=cS) (w.alloc (.cells #[.int .i64 0] 3));rw[size_alloc1] at this;exact this)
 have HH0:Hid (Row ((w.alloc (.cells #[.int .i64 0] 3)).alloc (.map #[] 0)) w.heap.size 3 #[.int .i64 0]):=Lib.hid ((row_new w 3 #[.int .i64 0]).alloc _)
 clear hw2
 go_loopw [15] (fun iv wr=>∃(i k:Nat) (S:Int→Option SL),i≤n∧iv=.int .i64 i∧Hid (CMap cS wr (w.heap.size+1) k S)∧Hid (k≤i∧(∀p s,S p=some s→∃y∈l.take i,(y.n:Int)=p∧y.v=encS (some s))∧∀y∈l.take i,(S y.n).isSome=true)∧Hid (Below w.heap.size w wr)∧Hid (Row wr w.heap.size 3 #[.int .i64 0])) (fun iv _=>n-(intOf iv).toNat)
 case atStart=>exact⟨0,0,fun _=>none,by omega,by simp,HM0,Lib.hid ⟨Nat.le_refl _,fun p s e=>(by cases e),fun y hy=>(by simp at hy)⟩,HB0,HH0⟩
 case round=>
  clear HM0 HB0 HH0
  obtain⟨i,k,S,hi,rfl,HM,HSS,HB,HH⟩:=hrel
  by_cases hlt:i<n
  ·have hji:(i:Int)<n:=by omega
   obtain⟨x,hx⟩:∃x,l[i]?=some x:=⟨_,List.getElem?_eq_getElem (by have:=HN.out;omega)⟩
   have hxm:=List.mem_of_getElem? hx
   have hW:=HS.out.keep HB.out
   have kk0:=hW.cell hx (j:=0) (by decide)
   have kk1:=hW.cell hx (j:=1) (by decide)
   have kk2:=hW.cell hx (j:=2) (by decide)
   obtain⟨a,vc,hve⟩:=HO.out.v x hxm
   have hx256:=(HO.out.pos x hxm).1
   have k0:wr.cell? ⟨g,i*3,none⟩=some (.int .i64 x.n):=kk0
   have k1:wr.cell? ⟨g,i*3+1,none⟩=some (.slice (some a) 64 vc):=by rw[kk1];show some x.v=_;rw[hve]
   have k2:wr.cell? ⟨g,i*3+2,none⟩=some (.bool false):=kk2
   have HX:=Lib.hid (And.intro hx hve)
   obtain⟨xn,hxn⟩:∃xn,xn=x.n:=⟨_,rfl⟩
   rw[← hxn] at k0 hx256
   have HXN:=Lib.hid hxn
   have hal:=Go.Joins.below_alloc1 wr (.cells #[.int .i64 xn,.slice (some a) 64 vc,.bool false] 256)
   have HB1:=Lib.hid (HB.out.trans (hal.mono HB.out.size))
   have HH1:=Lib.hid (HH.out.keep hal)
   have hr:=row_new wr 256 #[.int .i64 xn,.slice (some a) 64 vc,.bool false]
   have d0:(wr.alloc (.cells #[.int .i64 xn,.slice (some a) 64 vc,.bool false] 256)).cell? ⟨wr.heap.size,0,none⟩=some (.int .i64 xn):=by rw[hr.cell];rfl
   have d1:(wr.alloc (.cells #[.int .i64 xn,.slice (some a) 64 vc,.bool false] 256)).cell? ⟨wr.heap.size,1,none⟩=some (.slice (some a) 64 vc):=by rw[hr.cell];rfl
   obtain⟨w4,hput,hm4,hg4⟩:=(HM.out.keep hal).put (T:=134) Tryz.underlying134 (k:=(xn:Int)) (WalkArith.wf_i64 (by omega)) (by have:=HSS.out.1;have:=HO.out.le;have:=HN.out;unfold maxLen;omega) (a.block,a.off,64,vc)
   have ha:a=⟨a.block,a.off,none⟩:=by
    have h1:=(HK.out x hxm).1
    rw[hve] at h1
    rcases At.cellB h1 with e|⟨b,o,e,_⟩
    ·have:=(HK.out x hxm).2.1
     rw[e] at this;cases this
    ·injection e with e
     rw[e]
   have hput':(Instr.mapUpdate 134 (.map (some (w.heap.size+1))) (.int .i64 xn) (.slice (some a) 64 vc)).run Tryz.prog (wr.alloc (.cells #[.int .i64 xn,.slice (some a) 64 vc,.bool false] 256))=.ok () w4:=by
    have e:cS.enc (some (a.block,a.off,64,vc))=.slice (some a) 64 vc:=by show Value.slice (some ⟨a.block,a.off,none⟩) 64 vc=_;rw[← ha]
    rw[e] at hput
    exact hput
   have HM4:=Lib.hid hm4
   have HB4:Hid (Below w.heap.size w w4):=Lib.hid (HB1.out.grown hg4 HB1.out.size (fun k e=>by injection e with e;omega))
   have HH4:=Lib.hid (HH1.out.kept hg4 (fun e=>by injection e with e;omega))
   have HA:=Lib.hid ha
   clear hx hxm hW kk0 kk1 kk2 hve hr hal hput hm4 hg4 hxn HM HH HH1 ha
   go_wp2_with fail
   go_roundw
   case rel=>
    refine⟨i+1,k+1,_,by omega,by go_num,HM4,Lib.hid ⟨by have:=HSS.out.1;omega,fun p s e=>?_,fun y hy=>?_⟩,HB4,HH4⟩
    ·rw[List.take_add_one,HX.out.1,Option.toList_some]
     by_cases e2:p=(xn:Int)
     ·rw[if_pos e2] at e
      injection e with e
      refine⟨x,by simp,by rw[e2,HXN.out],?_⟩
      rw[← e,HX.out.2]
      show _=Value.slice (some ⟨a.block,a.off,none⟩) 64 vc
      rw[← HA.out]
     ·rw[if_neg e2] at e
      obtain⟨y,hy,e3⟩:=HSS.out.2.1 p s e
      exact⟨y,List.mem_append_left _ hy,e3⟩
    ·rw[List.take_add_one,HX.out.1,Option.toList_some] at hy
     by_cases e2:(y.n:Int)=xn
     ·rw[if_pos e2];rfl
     ·rw[if_neg e2]
      rcases List.mem_append.1 hy with q|q
      ·exact HSS.out.2.2 y q
      ·rw[List.mem_singleton] at q
       rw[q] at e2
       exact absurd (by rw[HXN.out]) e2
   case measure=>simp[intOf];omega
  ·obtain rfl:i=n:=by omega
   have HT:Hid (l.take i=l):=Lib.hid (List.take_of_length_le (by have:=HN.out;omega))
   go_wp2_with (first|(at_range;refine wpList_range_c _ rfl _ 134 rfl _ Tryz.underlying134 rfl HM.out ?_;intro w7 cnt7 hc7 hrg7 hg7 hs7)|go_in)
   go_frame
   obtain⟨r,hr⟩:∃r,r=wr.heap.size:=⟨_,rfl⟩
   have hg7':=below_g0 hg7
   have HB7:=Lib.hid (HB.out.trans (hg7'.mono HB.out.size))
   have HR7:=Lib.hid hrg7
   have HH7:=Lib.hid (HH.out.keep hg7')
   have HC7:=Lib.hid hc7
   have HRB:Hid (w.heap.size+1<r):=Lib.hid (by rw[hr];exact HM.out.lt)
   rw[← hr] at HR7 ⊢
   have HS7:Hid (r<w7.heap.size):=Lib.hid HR7.out.rlt
   clear hc7 hrg7 hg7 hs7 hg7' hr HB HM HH
   go_loopw [9] (fun ov wr=>∃(l2:List WR) (lf:Int→Bool) (cnt:Nat) (pp:Option Addr) (nn cc:Nat),ov=.slice pp nn cc∧Hid (nn=l2.length)∧Hid (RO (r+1) wr (.slice pp nn cc) l2)∧Hid (CRng cS wr (w.heap.size+1) r k S lf cnt)∧Hid (PInv l S k r wr (.slice pp nn cc) l2 lf cnt)∧Hid (Below w.heap.size w wr)∧Hid (Row wr w.heap.size 3 #[.int .i64 0])) (fun _ wr=>wr.rangeLeft (w.heap.size+1) r)
   case atStart=>exact⟨[],_,cnt7,none,0,0,rfl,Lib.hid rfl,Lib.hid (World.ownsRow_nil _ _ _ _),HR7,Lib.hid ⟨by have:=HC7.out;simp;omega,fun p e=>⟨e,fun _ q=>(nomatch q)⟩,by simp,fun _ q=>(nomatch q),fun p s e=>.inl (by rw[e];rfl),fun _ q=>(nomatch q)⟩,HB7,HH7⟩
   case round=>
    clear HR7 HB7 HC7 HH7 HS7
    obtain⟨l2,lf,cnt,pp,nn,cc,rfl,HNN,HO2,HR,HI,HB,HH⟩:=hrel
    go_wp2_with (first|(at_next;refine wpList_next_c _ rfl _ rfl (cnt:=cnt) rfl HR.out ?_ ?_)|go_in)
    ·intro hl
     have hT:=HI.out
     have hcov:∀x∈l,∃y∈l2,y.n=x.n:=fun x hx=>by
      have h1:=HSS.out.2.2 x (by rw[HT.out];exact hx)
      obtain⟨s,hs⟩:=Option.isSome_iff_exists.1 h1
      rcases hT.o _ s hs with q|⟨y,hy,q⟩
      ·rw[hl] at q;cases q
      ·exact⟨y,hy,by omega⟩
     have hsame:SameW l l2:=by
      unfold SameW
      rw[List.perm_ext_iff_of_nodup]
      ·intro a
       constructor
       ·intro ha
        obtain⟨y,hy,rfl⟩:=List.mem_map.1 ha
        obtain⟨x,hx,e1,e2⟩:=hT.m y hy
        exact List.mem_map.2 ⟨x,hx,by rw[e1,e2]⟩
       ·intro ha
        obtain⟨x,hx,rfl⟩:=List.mem_map.1 ha
        obtain⟨y,hy,e⟩:=hcov x hx
        obtain⟨x',hx',e1,e2⟩:=hT.m y hy
        have hxx:x'=x:=nodup_inj HO.out.nd hx' hx (by rw[e1,e])
        exact List.mem_map.2 ⟨y,hy,by rw[e,← e2,hxx]⟩
      ·exact nodup_pair hT.nd
      ·exact nodup_pair HO.out.nd
     have hne:l2≠[]:=by
      obtain⟨x,hx⟩:=List.exists_mem_of_ne_nil l H0.out
      obtain⟨y,hy,_⟩:=hcov x hx
      exact List.ne_nil_of_mem hy
     obtain⟨g',cap',hvv,hgB,hsr⟩:=SR.of_owns (T:=256) (K:=3) (A:=rqA) HO2.out rqA_size rfl hne
     injection hvv with e1 e2 e3
     subst e1 e2 e3
     have hgl:=hsr.lt
     obtain⟨n2,hn2⟩:∃n2,n2=l2.length:=⟨_,rfl⟩
     have hn22:n2≤12:=by have:=hT.c;have:=HSS.out.1;omega
     have hg1:g'≠w.heap.size:=by have:=HRB.out;omega
     have HSO:=Lib.hid (sortRq_is (g:=g') w.heap.size (fun wz=>wz.cell? ⟨w.heap.size,0,none⟩=some (.int .i64 0)) (fun wa wb h1 h2=>by
            have hlt:w.heap.size<wa.heap.size:=by
              rcases Nat.lt_or_ge w.heap.size wa.heap.size with h|h
              · exact h
              · rw[World.cell?,Array.getElem?_eq_none h] at h1;cases h1
            exact(h2.cell hlt (fun e=>hg1 e.symm)).trans h1) (fun wz a b hz ha hb=>cmpR_is wz a b hz ha hb) hsr (by rw[HH.out.cell];rfl) (fun y hy=>by
            obtain⟨h1,b,c,h2,_⟩:=hT.v y hy
            obtain⟨x,hx,e1,_⟩:=hT.m y hy
            exact⟨by rw[h2];rfl,by rw[← e1];exact(HO.out.pos x hx).1⟩) hn2 hn22)
     rw[← hn2]
     have HQ:=Lib.hid (And.intro hT (And.intro hgB (And.intro hn2 (And.intro hn22 (And.intro hne (And.intro hsame hg1))))))
     have hn20:0<n2:=by rw[hn2];exact List.length_pos_iff.2 hne
     have hn2i:(0:Int)<n2:=by omega
     have hn2j:(n2:Int)≤12:=by omega
     clear hT hne hsr hn2 HO2 HR HI hl hcov hsame hn22 hg1
     go_upto_region 13 with (go_at_call 318;refine HSO.out.mono ?_;rintro e8 w8 ⟨rfl,HL8,HU8⟩)
     obtain⟨l',hp,hs'⟩:=HL8
     have hll:=hp.length_eq
     have hn2':=HQ.out.2.2.1
     obtain⟨z,hz⟩:∃z,l'[n2-1]?=some z:=⟨_,List.getElem?_eq_getElem (by omega)⟩
     have kz:w8.cell? ⟨g',(n2-1)*3,none⟩=some (.int .i64 z.n):=hs'.cell hz (j:=0) (by decide)
     have hh8:=HH.out.upd HU8 (fun e=>HQ.out.2.2.2.2.2.2 e.symm)
     have hc8:w8.cell? ⟨w.heap.size,0,none⟩=some (.int .i64 0):=by rw[hh8.cell];rfl
     have hf8:=hh8.fz 0
     have hb8:Below w.heap.size w w8:=⟨HU8.os.trans HB.out.os,HU8.tape.trans HB.out.tape,HU8.output.trans HB.out.output,Nat.le_trans HB.out.size HU8.size,fun k hk=>(HU8.block k (Nat.lt_of_lt_of_le hk HB.out.size) (fun e=>by have:=HQ.out.2.1;have:=HRB.out;omega)).trans (HB.out.block k hk)⟩
     have hset:Upd (fun j=>j=w.heap.size) w8 (w8.setCell ⟨w.heap.size,0,none⟩ (.int .i64 z.n)):=Upd.set _ _ rfl
     have hs9:=hs'.upd hset (fun e=>HQ.out.2.2.2.2.2.2 e)
     have hb9:Below w.heap.size w (w8.setCell ⟨w.heap.size,0,none⟩ (.int .i64 z.n)):=⟨hset.os.trans hb8.os,hset.tape.trans hb8.tape,hset.output.trans hb8.output,Nat.le_trans hb8.size hset.size,fun k hk=>(hset.block k (Nat.lt_of_lt_of_le hk hb8.size) (fun e=>by omega)).trans (hb8.block k hk)⟩
     have hat:∀y∈l',At (Value.int .u8) 0 (w8.setCell ⟨w.heap.size,0,none⟩ (.int .i64 z.n)) y.v y.l∧∀j,y.v.ownBlock=some j→w.heap.size≤j∧j≠g':=fun y hy=>by
      obtain⟨h1,b,c,h2,h3,h4,h5⟩:=HQ.out.1.v y (hp.mem_iff.1 hy)
      have hbg:b≠g':=fun e=>h5 (by rw[e];rfl)
      have hbr:=HRB.out
      refine⟨(h1.updW HU8 (fun j e q=>?_)).updW hset (fun j e q=>?_),fun j e=>?_⟩
      ·rw[h2] at e;have e3:b=j:=Option.some.inj e;omega
      ·rw[h2] at e;have e3:b=j:=Option.some.inj e;omega
      ·rw[h2] at e;have e3:b=j:=Option.some.inj e;omega
     have hsm:SameW l l':=(hp.map _).trans HQ.out.2.2.2.2.2.1
     have HE:=Lib.hid (And.intro hs9 (And.intro hb9 (And.intro hat (And.intro hsm (And.intro hll (And.intro HQ.out.2.1 HQ.out.2.2.1))))))
     have hset8:(w8.setCell ⟨w.heap.size,0,none⟩ (.int .i64 z.n)).cell? ⟨w.heap.size,0,none⟩=some (.int .i64 z.n):=set_same hc8
     clear hp hs' hll hz hh8 hb8 hset hs9 hb9 hat hsm HU8 hn2'
     generalize z.n=zn at *
     go_upto_region 15 with fail
     generalize w8.setCell ⟨w.heap.size,0,none⟩ (.int .i64 zn)=w9 at *
     go_quiet (fail)
     go_wp2_with fail
     go_ret2
     obtain⟨hs9,hb9,hat,hsm,hll,hgb,hn2⟩:=HE.out
     refine⟨g',cc,l',zn,by rw[hll,← hn2];rfl,by have:=HRB.out;omega,hs9.keep (below_drewN (Below.refl _ _) _),hsm,fun y hy=>⟨(hat y hy).1.keep (below_drewN (Below.refl _ _) _),(hat y hy).2⟩,below_drewN hb9 _⟩
    ·intro k2 sb so sn sc w8 cnt8 hwf hlf hfk hrg8 hlt8 hg8 hs8 hen8
     obtain⟨x,hxm0,hxk,hxv⟩:=HSS.out.2.1 k2 _ hfk
     rw[HT.out] at hxm0
     obtain⟨m,rfl⟩:∃m:Nat,k2=m:=⟨x.n,hxk.symm⟩
     have hxn:x.n=m:=by omega
     have hm256:=(HO.out.pos x hxm0).1
     rw[hxn] at hm256
     change _=Result.ok (Value.tuple #[.int .i64 m,.slice (some ⟨sb,so,none⟩) sn sc]) w8 at hen8
     have hB8:Below w.heap.size w w8:=HB.out.grown hg8 HB.out.size (fun k e=>by injection e with e;have:=HRB.out;omega)
     have hat:=(HK.out x hxm0).1.keep hB8
     have hx64:=(HK.out x hxm0).2.1
     rw[hxv] at hat
     change At (Value.int .u8) 0 w8 (.slice (some ⟨sb,so,none⟩) sn sc) x.l at hat
     have hRO8:RO (r+1) w8 (.slice pp nn cc) l2:=(Upd.grown hg8 (S:=fun k=>k=r) rfl).owns HO2.out (fun g e q=>by have:=(HO2.out.lt g e).1;omega)
     have HCL:=Lib.hid (cloneB_is (by rw[hx64];omega) hat)
     have HQ:=Lib.hid (And.intro hxm0 (And.intro hxn (And.intro hx64 (And.intro hlf (And.intro hlt8 (And.intro hrg8 (And.intro hg8 hB8)))))))
     have HR8:=Lib.hid hRO8
     have HH8:=Lib.hid (HH.out.kept hg8 (fun e=>by injection e with e;have:=HRB.out;omega))
     clear hxm0 hxk hxv hxn hx64 hat hRO8 hrg8 hg8 hB8 hlf hlt8 hfk hwf
     go_wp2_with (go_at_call 105;refine HCL.out.mono ?_;rintro e9 w9 ⟨v2,rfl,ho9,hb9⟩;have hx64:=HQ.out.2.2.1;have hat9:=at_of_owned (f:=Value.int .u8) (d:=0) ho9;rw[hx64] at ho9;obtain⟨p2,k2,rfl⟩:=own_form ho9;obtain⟨g2,rfl,q1,q2,q3,q4⟩:=own_block ho9 (by decide);have hRO9:=owns_keep HR8.out hb9;have hsz9:r+1≤w9.heap.size:=Nat.le_trans (Nat.succ_le_of_lt HR.out.rlt) (Nat.le_trans HQ.out.2.2.2.2.2.2.1.size hb9.size);obtain⟨p10,c10,w10,hap,hro10,hb10,hg10,hfr⟩:=RO.push hRO9 hsz9 ⟨m,.slice (some ⟨g2,0,none⟩) 64 k2,x.l⟩ rfl (by have:=HI.out.c;have:=HSS.out.1;omega);rw[← HNN.out] at hap;change (appR #[.slice pp nn cc,.slice (some ⟨w9.heap.size,0,none⟩) 1 1]).run Tryz.prog (w9.alloc (.cells #[.int .i64 m,.slice (some ⟨g2,0,none⟩) 64 k2,.bool false] 256))=.ok (.slice p10 (nn+1) c10) w10 at hap;have HZ:=Lib.hid (And.intro hat9 (And.intro hb9 (And.intro q1 (And.intro q2 (And.intro hro10 (And.intro hb10 (And.intro hg10 hfr)))))));clear hx64 hat9 ho9 hb9 q1 q2 q3 q4 hRO9 hsz9 hro10 hb10 hg10 hfr)
     go_roundw
     case rel=>
      obtain⟨hat9,hb9,q1,q2,hro10,hb10,hg10,hfr⟩:=HZ.out
      obtain⟨hxm0,hxn,hx64,hlf,hlt8,hrg8,hg8,hB8⟩:=HQ.out
      have hrw:r<wr.heap.size:=HR.out.rlt
      have hw8:wr.heap.size≤w8.heap.size:=hg8.size
      have hpl:∀j,(Value.slice pp nn cc).ownBlock=some j→r+1≤j∧j<wr.heap.size:=fun j e=>HO2.out.lt j e
      have hu10:Upd (fun j=>(Value.slice pp nn cc).ownBlock=some j∨j=r) wr w10:=((Upd.grown hg8 (.inr rfl)).trans (Upd.below hb9)).trans (Upd.grown0 hg10 (fun b e _=>.inl e))
      have hnn1:(Value.slice p10 (nn+1) c10).ownBlock=(Value.slice p10 (l2.length+1) c10).ownBlock:=by rw[HNN.out]
      have hfr2:∀b,b<w9.heap.size→(Value.slice pp nn cc).ownBlock≠some b→(Value.slice p10 (nn+1) c10).ownBlock≠some b:=fun b hb hn=>by
       rcases hfr with e|⟨g,hg,e⟩
       ·rw[hnn1,e];exact hn
       ·rw[hnn1,e];intro e2;injection e2 with e2;omega
      refine⟨l2++[⟨m,.slice (some ⟨g2,0,none⟩) 64 k2,x.l⟩],_,cnt8,p10,nn+1,c10,rfl,Lib.hid (by rw[HNN.out];simp),Lib.hid (by rw[HNN.out];exact hro10),Lib.hid ((hrg8.kept (gb hb9) (by simp) (by simp)).kept hg10 (fun e=>by have:=hpl _ e.symm;have:=HRB.out;omega) (fun e=>by have:=hpl _ e.symm;omega)),Lib.hid (PInv.step (y:=⟨m,.slice (some ⟨g2,0,none⟩) 64 k2,x.l⟩) HI.out hlf hlt8 hxm0 hxn rfl rfl hu10 ⟨hat9.updW (Upd.grown0 hg10 (S:=fun j=>(Value.slice pp nn cc).ownBlock=some j) (fun b e _=>e)) (fun j e q=>?_),g2,k2,rfl,by omega,by have:=hg10.size;omega,hfr2 g2 q2 (fun e=>by have:=hpl _ e;omega)⟩ (fun b hb hn=>hfr2 b (by have:=hb9.size;omega) hn)),Lib.hid ((hB8.trans (hb9.mono hB8.size)).grown hg10 (by have:=hB8.size;have:=hb9.size;omega) (fun k e=>by have:=hpl _ e;have:=HRB.out;omega)),Lib.hid ((HH8.out.keep hb9).kept hg10 (fun e=>by have:=hpl _ e.symm;have:=HRB.out;omega))⟩
      have e3:g2=j:=Option.some.inj e
      have:=hpl _ q
      omega
     case measure=>
      obtain⟨hat9,hb9,q1,q2,hro10,hb10,hg10,hfr⟩:=HZ.out
      obtain⟨hxm0,hxn,hx64,hlf,hlt8,hrg8,hg8,hB8⟩:=HQ.out
      have hpl:∀j,(Value.slice pp nn cc).ownBlock=some j→r+1≤j∧j<wr.heap.size:=fun j e=>HO2.out.lt j e
      have h10:=((hrg8.kept (gb hb9) (by simp) (by simp)).kept hg10 (fun e=>by have:=hpl _ e.symm;have:=HRB.out;omega) (fun e=>by have:=hpl _ e.symm;omega)).left
      rw[h10,HR.out.left]
      exact hlt8
end
section
variable {T K:Nat} {A:WR→Array Value} {w w':World} {g cap:Nat} {l:List WR}
theorem SR.news (h:SR T K A w g cap l)(hA:∀x,(A x).size=K):∀j u,(l.flatMap fun x=>(A x).toList)[j]?=some u→w.cell? ((⟨g,0,none⟩:Addr).add j)=some u:=fun j u hu=>by
 have hj:j<l.length*K:=by
  have:=(List.getElem?_eq_some_iff.1 hu).1
  rw[flat_len A K hA] at this
  exact this
 have hK:0<K:=by rcases Nat.eq_zero_or_pos K with e|e;rw[e] at hj;simp at hj;exact e
 have hd:j / K<l.length:=(Nat.div_lt_iff_lt_mul hK).2 hj
 obtain⟨y,hy⟩:∃y,l[j / K]?=some y:=⟨_,List.getElem?_eq_getElem hd⟩
 have ek:j / K*K+j % K=j:=by rw[Nat.mul_comm];exact Nat.div_add_mod j K
 have h2:=flat_get A K hA l hy (Nat.mod_lt j hK)
 have h3:=h.cell hy (Nat.mod_lt j hK)
 rw[ek] at h2 h3
 rw[show ((⟨g,0,none⟩:Addr).add j)=⟨g,j,none⟩ by rw[Addr.add_lit,Nat.zero_add],h3,← h2,hu]
end
theorem appR_all {w:World} {g cap:Nat} {l:List WR}(h:SRq w g cap l)(ho:∀x∈l,x.v.oneCell'=true)(h0:l≠[])(h64:l.length<100000) {n:Nat}(hn:n=l.length) :
  ∃g2 c w',(appR #[.slice none 0 0,.slice (some ⟨g,0,none⟩) n cap]).run Tryz.prog w=.ok (.slice (some ⟨g2,0,none⟩) n c) w'∧SRq w' g2 c l∧w.heap.size≤g2∧Below w.heap.size w w':=by
 subst hn
 obtain⟨i0,hi,hz0,hz1,hz2⟩:=info_parts infoRq
 obtain⟨v',w',hr,hw,hg,hfr⟩:=run_append_fresh (P:=Tryz.prog) w w.heap.size 254 254 256 i0 _ 3 40 Tryz.underlying254 hi hz0 hz1 hz2 rfl (by decide) (.slice none 0 0) 0 [] (World.ownsRow_nil _ _ _ _) ⟨g,0,none⟩ l.length cap _ (flat_len rqA 3 rqA_size l) (h.news rqA_size) (fun u hu=>by
    obtain⟨x,hx,hu⟩:=List.mem_flatMap.1 hu
    simp[rqA] at hu
    rcases hu with rfl|rfl|rfl
    · rfl
    · exact ho x hx
    · rfl) (by unfold maxLen;omega) (by omega) (Nat.le_refl _)
 rw[Nat.zero_add,List.nil_append] at hw
 obtain⟨g2,c,rfl,hg2,hs⟩:=SR.of_owns (T:=256) (K:=3) (A:=rqA) hw rqA_size rfl h0
 exact⟨g2,c,w',hr,hs,hg2,⟨hg.os,hg.tape,hg.output,hg.size,fun k hk=>hg.block k hk (by simp[Value.ownBlock])⟩⟩
theorem At.ownlt {α:Type} {f:α→Value} {d:α} {w:World} {v:Value} {l:List α}(h:At f d w v l):v.ownBlock=none∨l=[]∨∀j,v.ownBlock=some j→j<w.heap.size:=by
 obtain⟨a,cap,rfl,h1,h2,h3⟩:=h
 rcases h3 with e|⟨b,o,e,hb,hc⟩
 ·exact .inr (.inl e)
 ·refine .inr (.inr fun j q=>?_)
  rw[e] at q
  have e3:b=j:=Option.some.inj q
  omega
section
variable {w:World} {g cap:Nat} {l:List WR}
attribute [local go_sem ↓] appR_eq
theorem order_is (hs:SRq w g cap l)(ho:WrOk l)(hok:WsOk (fun j=>j=g) w l)(h0:l≠[]) {n:Nat}(hn:n=l.length):Calls Tryz.prog 212 #[.slice (some ⟨g,0,none⟩) n cap,.int .i64 0] w fun e w'=>∃g' cap' l',e=.returned (.tuple #[.slice (some ⟨g',0,none⟩) l'.length cap',.int .i64 0])∧SRq w' g' cap' l'∧SameW l l'∧w.heap.size≤g'∧(∀y∈l',At (Value.int .u8) 0 w' y.v y.l∧∀j,y.v.ownBlock=some j→w.heap.size≤j∧j≠g')∧Below w.heap.size w w':=by
 have hvv:∀y∈l,∃a k,y.v=.slice a 64 k:=fun y hy=>by obtain⟨a,k,e⟩:=ho.v y hy;exact⟨_,_,e⟩
 have hn12:n≤12:=by rw[hn];exact ho.le
 have HRI:=Lib.hid (lright_is hs (fun y hy=>(ho.pos y hy).1) hvv hn hn12)
 have HIX:=Lib.hid (fun w' (hb:Below w.heap.size w w')=>lidx_is (hs.keep hb) hvv hn hn12)
 have HPT:=Lib.hid (fun w' (hb:Below w.heap.size w w')=>part_is (hs.keep hb) ho (hok.keep hb) h0 hn)
 have hcap:n≤cap:=by rw[hn];exact hs.le
 have hcm:(cap:Int)≤9223372036854775807:=by have:=hs.lm;unfold maxLen at this;omega
 have hn0:0<n:=by rw[hn];exact List.length_pos_iff.2 h0
 have hn0i:(0:Int)<n:=by omega
 have hni:(n:Int)≤12:=by omega
 have hnci:(n:Int)≤cap:=by omega
 have HN:=Lib.hid (And.intro hn (And.intro h0 ho.le))
 have HK:Hid (∀x∈l,x.l.length=64):=Lib.hid (fun x hx=>(hok x hx).2.1)
 clear hs ho hok h0 hn hvv
 go_enter Tryz.func212,Tryz.ntmps212
 go_wp2_with (go_at_call 269;refine HRI.out.mono ?_;rintro e1 w1 ⟨rfl,hb1⟩;have HB1:=Lib.hid hb1;clear hb1)
 refine wp_loop_rounds 2 ?_
 rw[rounds_succ]
 go_upto_region 13 with (first|(go_at_call 270;(with_reducible refine(HIX.out _ HB1.out).mono ?_);rintro e2 w2 ⟨rfl,hb2⟩;have HB2:=Lib.hid (HB1.out.trans (hb2.mono HB1.out.size));clear hb2)|(go_at_call 272;(with_reducible refine(HPT.out _ HB2.out).mono ?_);rintro e3 w3 ⟨g',cap',l',k,rfl,hgs,hs3,hsm,hat,hb3⟩;have HQ:=Lib.hid (And.intro hgs (And.intro hs3 (And.intro hsm (And.intro hat (HB2.out.trans (hb3.mono HB2.out.size))))));clear hgs hs3 hsm hat hb3))
 obtain⟨hgs,hs3,hsm,hat,hb3⟩:=HQ.out
 have hl3:l'.length=l.length:=by have:=hsm.length_eq;simpa using this
 have hne3:l'≠[]:=fun e=>by rw[e] at hl3;exact HN.out.2.1 (List.length_eq_zero_iff.1 hl3.symm)
 obtain⟨m,hm⟩:∃m,m=l'.length:=⟨_,rfl⟩
 obtain⟨g2,c2,w4,hap,hs4,hg4,hb4⟩:=appR_all hs3 (fun x hx=>by
    obtain⟨a',c',e,_⟩:=(hat x hx).1
    rw[e];rfl) hne3 (by have:=HN.out.2.2;omega) hm
 have hl64:∀y∈l',y.l.length=64:=fun y hy=>by
  have h1:(y.n,y.l)∈l.map fun y=>(y.n,y.l):=hsm.mem_iff.1 (List.mem_map.2 ⟨y,hy,rfl⟩)
  obtain⟨x,hx,e⟩:=List.mem_map.1 h1
  have e2:x.l=y.l:=congrArg Prod.snd e
  rw[← e2];exact HK.out x hx
 have hat4:∀y∈l',At (Value.int .u8) 0 w4 y.v y.l∧∀j,y.v.ownBlock=some j→w.heap.size≤j∧j≠g2:=fun y hy=>by
  refine⟨(hat y hy).1.keep hb4,fun j e=>⟨Nat.le_trans HB2.out.size ((hat y hy).2 j e).1,?_⟩⟩
  have hjl:j<w3.heap.size:=by
   rcases At.ownlt (hat y hy).1 with q|q|q
   ·rw[q] at e;cases e
   ·have:=hl64 y hy;rw[q] at this;cases this
   ·exact q j e
  omega
 have HE:=Lib.hid (And.intro hs4 (And.intro (Nat.le_trans hb3.size hg4) (And.intro hat4 (And.intro (hb3.trans (hb4.mono hb3.size)) (And.intro hsm hm)))))
 rw[← hm]
 clear hgs hs3 hsm hat hb3 hl3 hne3 hs4 hg4 hb4 hat4 HQ hm
 go_upto_region 17 with fail
 go_wp2_with fail
 all_goals
  rw[rounds_succ]
  go_wp2_with fail
  go_ret2
  obtain⟨hs4,hg4,hat4,hb4,hsm,hm⟩:=HE.out
  exact⟨g2,c2,l',by rw[← hm];rfl,hs4,hsm,hg4,hat4,hb4⟩
end
end Go.Proofs.YtfkepfncgdlgoaaGreatDoor
