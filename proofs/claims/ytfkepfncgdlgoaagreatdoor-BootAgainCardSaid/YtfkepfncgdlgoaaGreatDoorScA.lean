/- The walk of fs.Sync: all that is not told yet is told, and waits to be written. The walk of journal's Scan at a journal that tells some writes. -/
import Derived.Test.YtfkepfncgdlgoaaGreatDoorJcB
import Derived.Test.YtfkepfncgdlgoaaGreatDoorFmtP
import Derived.Test.YtfkepfncgdlgoaaGreatDoorFwD
namespace Go.Proofs.YtfkepfncgdlgoaaGreatDoor
open Go.RowKit Go.Maps
set_option linter.unusedVariables false
set_option linter.unusedSimpArgs false
set_option maxRecDepth 100000
set_option maxHeartbeats 8000000
theorem fsR_setA (c:FC) (x:FM) (a':Nat):(fsR c x).setIfInBounds 196 (.map (some a'))=fsR c { x with a:=a' }:=by
 apply Array.ext_getElem?
 intro j
 rw[Array.getElem?_setIfInBounds]
 by_cases h:196=j
 ·subst h
  rw[if_pos rfl,if_pos (by rw[fsR_size];decide)]
  exact(fsR_hi c { x with a:=a' } 2).symm
 ·rw[if_neg h]
  by_cases h2:j<194
  ·unfold fsR
   have hs:(#[Value.pointer (some ⟨c.D,0,none⟩),.pointer (some ⟨c.L,0,none⟩)]++forA x.G).size=194:=by rw[Array.size_append,forA_size];rfl
   exact(Array.getElem?_append_left (by rw[hs];exact h2)).trans (Array.getElem?_append_left (by rw[hs];exact h2)).symm
  ·obtain⟨k,rfl⟩:∃k,j=194+k:=⟨j-194,by omega⟩
   rw[fsR_hi,fsR_hi]
   rcases k with _|_|_|_|k
   ·rfl
   ·rfl
   ·exact absurd rfl h
   ·rfl
   ·rw[Array.getElem?_eq_none (by simp),Array.getElem?_eq_none (by simp)]
def syncM (x:FM) (a':Nat) (wv':Value) (wc:List WR) (s' f':List Int) (q':Int):FM:={ x with a:=a',na:=0,td:=fun _=>none,tb:=fun _=>[],sq:=q',wv:=wv',wm:=wc.length,wx:=wc.flatMap wrC,s:=s',f:=f',bs:=fun j=>x.bs j∨j=a'∨wv'.ownBlock=some j }
structure Synced (w w':World) (c:FC) (x:FM) (q:Nat) (x':FM) (wc l l':List WR):Prop where
 st:FSt w' c x'
 eq:∃a' wv' s' f',x'=syncM x a' wv' wc s' f' ((q+1:Nat):Int)∧w.heap.size≤a'
 dw:DW w' c.D c.sb c.nb x'.wv 256 x'.s x'.f wc
 jo:JOk x'.s (q+1) l
 wo:WrOk l
 l64:∀y∈l,y.l.length=64
 td:TodoL x l
 sm:SameW l l'
 ff:x'.f=wrAll x'.s l'
 wp:(wc.map fun y=>(y.n,y.l))=(l'.map fun y=>(y.n,y.l))
 ss:∀p,p<256→(p<5∨37≤p)→sect x'.s p=sect x.f p
 wb:∀y∈wc,∀j,y.v.ownBlock=some j→w.heap.size≤j∧¬x'.bs j
 wn:∀j,x'.wv.ownBlock=some j→w.heap.size≤j
 up:Upd (fun j=>j=c.F∨j=c.L∨j=c.D∨j=c.sb∨j=c.nb) w w'
section
variable {w:World} {c:FC} {x:FM}
theorem sync_pre {w2:World}(h:FSt w c x)(hk:∀p s,x.td p=some s→(0≤p∧p<256)∧(p<5∨37≤p)) {q:Nat}(hq:x.sq=q)(hq2:q+1<4294967296)(hb:Below w.heap.size w w2) {g cap:Nat} {l:List WR}(hg:w.heap.size≤g)(hs:SWr w2 g cap l)(ht:TodoL x l)(h0:l≠[])(h12:l.length≤12) :
  Hid (Calls Tryz.prog 61 #[.pointer (some ⟨c.L,0,none⟩),.slice (some ⟨g,0,none⟩) l.length cap] w2 fun e w'=>e=.returned (.int .i64 0)∧LogR w' c.L c.D ((q+1:Nat):Int)∧(∃wv' s' f' wc l',DW w' c.D c.sb c.nb wv' 256 s' f' wc∧SameW l l'∧JOk s' (q+1) l∧(∀p,p<256→(p<5∨37≤p)→sect s' p=sect x.f p)∧f'=wrAll s' l'∧(wc.map fun y=>(y.n,y.l))=(l'.map fun y=>(y.n,y.l))∧(∀y∈wc,∀j,y.v.ownBlock=some j→w2.heap.size≤j)∧∀j,wv'.ownBlock=some j→w2.heap.size≤j)∧Upd (fun j=>j=c.L∨j=c.D∨j=c.sb∨j=c.nb) w2 w')∧Hid (WrOk l∧∀y∈l,y.l.length=64):=by
 have h2:=h.keep hb
 have hL:∀j,fMut c x j→j<w.heap.size:=fun j e=>h.lt j (h.bm j e)
 have hlL:=hL c.L (.inr (.inr (.inr (.inl rfl))))
 have hlD:=hL c.D (.inr (.inr (.inr (.inr (.inl rfl)))))
 have hlsb:=hL c.sb (.inr (.inr (.inr (.inr (.inr (.inl rfl))))))
 have hlnb:=hL c.nb (.inr (.inr (.inr (.inr (.inr (.inr (.inl rfl)))))))
 have hinf:∀y∈l,At (Value.int .u8) 0 w2 y.v y.l∧y.l.length=64∧(∃a k,y.v=.slice (some a) 64 k)∧∀j,y.v.ownBlock=some j→¬fMut c x j∧j<w.heap.size:=fun y hy=>by
  obtain⟨s,e1,e2,e3⟩:=ht.mem y hy
  obtain⟨hi,h64,hbs⟩:=h2.tb _ s e1
  rw[← e2,← e3] at hi
  rw[← e3] at h64
  refine⟨hi.a,h64,?_,fun j e=>⟨hi.n j e,?_⟩⟩
  ·obtain⟨b,o,n,k⟩:=s
   obtain⟨a',c',q1,_⟩:=hi.a
   rw[h64] at q1
   rw[e2] at q1
   have q2:Value.slice (some ⟨b,o,none⟩) n k=.slice a' 64 c':=q1
   injection q2 with q3 q4 q5
   exact⟨⟨b,o,none⟩,k,by rw[e2,← q4];rfl⟩
  ·rw[e2] at e
   obtain⟨b,o,n,k⟩:=s
   have e4:b=j:=Option.some.inj e
   have:=h.lt b (h.tb _ _ e1).2.2
   omega
 have hwo:WrOk l:=⟨ht.nd,fun y hy=>by
    obtain⟨s,e1,_⟩:=ht.mem y hy
    have:=hk _ s e1
    omega,fun y hy=>(hinf y hy).2.2.1,h12⟩
 have hlg:LogR w2 c.L c.D q:=by have:=h2.lg;rw[hq] at this;exact this
 refine⟨Lib.hid (commit_is hlg h2.dk hs hwo (fun y hy=>⟨(hinf y hy).1,(hinf y hy).2.1,fun j e=>⟨fun q=>?_,?_⟩⟩) h0 rfl ⟨by omega,⟨fun e=>?_,fun e=>?_,fun e=>?_⟩,by omega,by omega,by omega⟩ hq2),Lib.hid ⟨hwo,fun y hy=>(hinf y hy).2.1⟩⟩
 ·have h5:=(hinf y hy).2.2.2 j e
  rcases q with q|q|q|q|q
  ·omega
  ·exact h5.1 (.inr (.inr (.inr (.inl q))))
  ·exact h5.1 (.inr (.inr (.inr (.inr (.inl q)))))
  ·exact h5.1 (.inr (.inr (.inr (.inr (.inr (.inl q))))))
  ·exact h5.1 (.inr (.inr (.inr (.inr (.inr (.inr (.inl q)))))))
 ·have:=((hinf y hy).2.2.2 j e).2
  have:=hb.size
  omega
 ·exact h.n2.2.2.2 (.inl e)
 ·exact h.n2.2.2.2 (.inr (.inl e))
 ·exact h.n2.2.2.2 (.inr (.inr (.inl e)))
theorem sync_c1 {w2 w3:World}(h:FSt w c x)(hb:Below w.heap.size w w2)(hu:Upd (fun j=>j=c.L∨j=c.D∨j=c.sb∨j=c.nb) w2 w3):w3.cell? ⟨c.F,1,none⟩=some (.pointer (some ⟨c.L,0,none⟩)):=by
 have h2:=h.keep hb
 rw[(h2.row.upd hu ?_).cell,fsR_lo _ _ (by decide)]
 ·rfl
 ·rintro (e|e|e|e)
  ·exact h.n1.2.2.1 e
  ·exact h.n2.1 (.inl e)
  ·exact h.n2.1 (.inr (.inl e))
  ·exact h.n2.1 (.inr (.inr (.inl e)))
theorem sync_c5 {w2 w3:World}(h:FSt w c x)(hb:Below w.heap.size w w2)(hu:Upd (fun j=>j=c.L∨j=c.D∨j=c.sb∨j=c.nb) w2 w3):Hid ((w3.alloc (.map #[] 0)).cell? ⟨c.F,196,none⟩=some (.map (some x.a)))∧Hid ((w3.alloc (.map #[] 0)).frozen? ⟨c.F,196,none⟩=false):=by
 have h2:=h.keep hb
 have hr:=(h2.row.upd hu (by
    rintro (e|e|e|e)
    · exact h.n1.2.2.1 e
    · exact h.n2.1 (.inl e)
    · exact h.n2.1 (.inr (.inl e))
    · exact h.n2.1 (.inr (.inr (.inl e))))).alloc (.map #[] 0)
 exact⟨Lib.hid (by rw[hr.cell,fsR_hi c x 2];rfl),Lib.hid (hr.fz 196)⟩
theorem sync_fst {w2 w3:World}(h:FSt w c x) {q:Nat}(hq:x.sq=q)(hb:Below w.heap.size w w2) {l:List WR}(hwo:WrOk l)(h64:∀y∈l,y.l.length=64)(htd:TodoL x l)(hlg:LogR w3 c.L c.D ((q+1:Nat):Int))(hx:∃wv' s' f' wc l',DW w3 c.D c.sb c.nb wv' 256 s' f' wc∧SameW l l'∧JOk s' (q+1) l∧(∀p,p<256→(p<5∨37≤p)→sect s' p=sect x.f p)∧f'=wrAll s' l'∧(wc.map fun y=>(y.n,y.l))=(l'.map fun y=>(y.n,y.l))∧(∀y∈wc,∀j,y.v.ownBlock=some j→w2.heap.size≤j)∧∀j,wv'.ownBlock=some j→w2.heap.size≤j)(hu:Upd (fun j=>j=c.L∨j=c.D∨j=c.sb∨j=c.nb) w2 w3) :
  ∃x' wc l l',Synced w ((w3.alloc (.map #[] 0)).setCell ⟨c.F,196,none⟩ (.map (some w3.heap.size))) c x q x' wc l l':=by
 obtain⟨wv',s',f',wc,l',hdw,hsm,hjo,hss,hff,hwp,hwb,hwn⟩:=hx
 have h2:=h.keep hb
 have hw2:w.heap.size≤w2.heap.size:=hb.size
 have hw3:w2.heap.size≤w3.heap.size:=hu.size
 have hnS:∀j,x.bs j→¬(j=c.L∨j=c.D∨j=c.sb∨j=c.nb)→∀ {S:Prop},True:=fun _ _ _ _=>trivial
 have hF:¬(c.F=c.L∨c.F=c.D∨c.F=c.sb∨c.F=c.nb):=by
  rintro (e|e|e|e)
  ·exact h.n1.2.2.1 e
  ·exact h.n2.1 (.inl e)
  ·exact h.n2.1 (.inr (.inl e))
  ·exact h.n2.1 (.inr (.inr (.inl e)))
 have hH:¬(c.hb=c.L∨c.hb=c.D∨c.hb=c.sb∨c.hb=c.nb):=by
  rintro (e|e|e|e)
  ·exact h.n1.2.2.2.2.2 e
  ·exact h.n2.2.2.1 (.inl e)
  ·exact h.n2.2.2.1 (.inr (.inl e))
  ·exact h.n2.2.2.1 (.inr (.inr (.inl e)))
 have hN:¬(x.N=c.L∨x.N=c.D∨x.N=c.sb∨x.N=c.nb):=by
  rintro (e|e|e|e)
  ·exact h.nm (.inr (.inr (.inr (.inl e))))
  ·exact h.nm (.inr (.inr (.inr (.inr (.inl e)))))
  ·exact h.nm (.inr (.inr (.inr (.inr (.inr (.inl e))))))
  ·exact h.nm (.inr (.inr (.inr (.inr (.inr (.inr (.inl e)))))))
 have hr3:=h2.row.upd hu hF
 have hal:=Go.Joins.below_alloc1 w3 (.map #[] 0)
 have hr4:=hr3.alloc (.map #[] 0)
 have hset:Upd (fun j=>j=c.F) (w3.alloc (.map #[] 0)) ((w3.alloc (.map #[] 0)).setCell ⟨c.F,196,none⟩ (.map (some w3.heap.size))):=Upd.set _ _ rfl
 have hlt:∀j,x.bs j→j<w.heap.size:=h.lt
 have hcF:c.F<w.heap.size:=hlt _ (h.bm _ (.inl rfl))
 have hu5:Upd (fun j=>j=c.F∨j=c.L∨j=c.D∨j=c.sb∨j=c.nb) w2 ((w3.alloc (.map #[] 0)).setCell ⟨c.F,196,none⟩ (.map (some w3.heap.size))):=((hu.mono (fun j _ e=>.inr e)).trans (Upd.below hal)).trans (hset.mono (fun j _ e=>.inl e))
 have hrow:Row ((w3.alloc (.map #[] 0)).setCell ⟨c.F,196,none⟩ (.map (some w3.heap.size))) c.F 137 (fsR c (syncM x w3.heap.size wv' wc s' f' ((q+1:Nat):Int))):=by
  rw[hr4.setCell,fsR_setA]
  exact hr4.setRow _
 have hDx:∀j,Dset c.D c.sb c.nb wv' j→j=c.D∨j=c.sb∨j=c.nb∨w2.heap.size≤j:=fun j e=>by
  rcases e with e|e|e|e
  ·exact .inl e
  ·exact .inr (.inl e)
  ·exact .inr (.inr (.inl e))
  ·exact .inr (.inr (.inr (hwn j e)))
 have hdw5:DW ((w3.alloc (.map #[] 0)).setCell ⟨c.F,196,none⟩ (.map (some w3.heap.size))) c.D c.sb c.nb wv' 256 s' f' wc:=(hdw.keep hal).upd hset (fun e=>h.n2.1 (.inl e.symm)) (fun e=>h.n2.1 (.inr (.inl e.symm))) (fun e=>h.n2.1 (.inr (.inr (.inl e.symm)))) (fun j e q=>by have:=hwn j e;omega) (fun y hy j e q=>by have:=hwb y hy j e;omega)
 have hwvlt:∀j,wv'.ownBlock=some j→j<w3.heap.size:=fun j e=>(hdw.ow.lt j e).2
 have hmut:∀j,fMut c (syncM x w3.heap.size wv' wc s' f' ((q+1:Nat):Int)) j→(fMut c x j∧j<w.heap.size)∨j=w3.heap.size∨wv'.ownBlock=some j:=fun j e=>by
  rcases e with e|e|e|e|e|e|e|e
  ·exact .inl ⟨.inl e,by rw[e];exact hcF⟩
  ·exact .inr (.inl e)
  ·have:fMut c x j:=.inr (.inr (.inl e));exact .inl ⟨this,hlt _ (h.bm _ this)⟩
  ·have:fMut c x j:=.inr (.inr (.inr (.inl e)));exact .inl ⟨this,hlt _ (h.bm _ this)⟩
  ·have:fMut c x j:=.inr (.inr (.inr (.inr (.inl e))));exact .inl ⟨this,hlt _ (h.bm _ this)⟩
  ·have:fMut c x j:=.inr (.inr (.inr (.inr (.inr (.inl e)))));exact .inl ⟨this,hlt _ (h.bm _ this)⟩
  ·have:fMut c x j:=.inr (.inr (.inr (.inr (.inr (.inr (.inl e))))));exact .inl ⟨this,hlt _ (h.bm _ this)⟩
  ·exact .inr (.inr e)
 have hzl:w.heap.size≤w3.heap.size:=Nat.le_trans hw2 hw3
 have hst:FSt ((w3.alloc (.map #[] 0)).setCell ⟨c.F,196,none⟩ (.map (some w3.heap.size))) c (syncM x w3.heap.size wv' wc s' f' ((q+1:Nat):Int)):=by
  refine⟨hrow,h.lone,h.fr,?_,?_,h.cp,fun i hi=>⟨?_,fun j e=>.inl ((h.ps i hi).2 j e)⟩,?_,fun p s e=>(by cases e),?_,hdw5.dk,fun e=>?_,?_,?_,fun j e=>?_,.inl h.bn,fun j e=>?_,hdw5.ow⟩
  ·exact((Row.alloc hlg (.map #[] 0)).upd hset (fun e=>h.n1.2.2.1 e.symm))
  ·obtain⟨C,hC⟩:=h2.nb
   exact⟨C,hC.upd hu5 (fun e=>e.elim (fun e=>h.nm (.inl e)) (fun e=>hN e))⟩
  ·obtain⟨hi2,hb2⟩:=h2.ps i hi
   have hk:=hi2.upd hu5 (fun j e q=>hi2.n j e (by
        rcases q with q|q|q|q|q
        · exact .inl q
        · exact .inr (.inr (.inr (.inl q)))
        · exact .inr (.inr (.inr (.inr (.inl q))))
        · exact .inr (.inr (.inr (.inr (.inr (.inl q)))))
        · exact .inr (.inr (.inr (.inr (.inr (.inr (.inl q))))))))
   refine⟨hk.a,fun j e q=>?_,hk.lt⟩
   have hjl:=hlt j (hb2 j e)
   rcases hmut j q with q|q|q
   ·exact hi2.n j e q.1
   ·omega
   ·have:=hwn j q;omega
  ·have:=(CMap.made (c:=cS) w3).upd hset (fun e=>by omega)
   exact this
  ·exact(h2.hd.upd hu hH).keep hal |>.upd hset (fun e=>h.n1.2.1 e.symm)
  ·rcases hmut _ e with q|q|q
   ·exact h.nm q.1
   ·have q1:x.N=w3.heap.size:=q
    have:=hlt _ h.bn;omega
   ·have q1:=hwn x.N q;have:=hlt _ h.bn;omega
  ·have h3:=hlt _ (h.bm _ (.inr (.inr (.inl rfl)):fMut c x c.hb))
   have h4:=hlt _ (h.bm _ (.inr (.inr (.inr (.inl rfl))):fMut c x c.L))
   exact⟨by show c.F≠w3.heap.size;omega,h.n1.2.1,h.n1.2.2.1,by show w3.heap.size≠c.hb;omega,by show w3.heap.size≠c.L;omega,h.n1.2.2.2.2.2⟩
  ·have h3:=hlt _ (h.bm _ (.inr (.inr (.inl rfl)):fMut c x c.hb))
   have h4:=hlt _ (h.bm _ (.inr (.inr (.inr (.inl rfl))):fMut c x c.L))
   have hDl:=hlt _ (h.bm _ (.inr (.inr (.inr (.inr (.inl rfl)))):fMut c x c.D))
   have hsl:=hlt _ (h.bm _ (.inr (.inr (.inr (.inr (.inr (.inl rfl))))):fMut c x c.sb))
   have hnl:=hlt _ (h.bm _ (.inr (.inr (.inr (.inr (.inr (.inr (.inl rfl)))))):fMut c x c.nb))
   have hno:∀j,j<w.heap.size→¬fDk c x j→¬fDk c (syncM x w3.heap.size wv' wc s' f' ((q+1:Nat):Int)) j:=fun j hj hn e=>by
    rcases e with e|e|e|e
    ·exact hn (.inl e)
    ·exact hn (.inr (.inl e))
    ·exact hn (.inr (.inr (.inl e)))
    ·have:=hwn j e;omega
   refine⟨hno _ hcF h.n2.1,fun e=>?_,hno _ h3 h.n2.2.2.1,hno _ h4 h.n2.2.2.2⟩
   rcases e with e|e|e|e
   ·have:w3.heap.size=c.D:=e
    omega
   ·have:w3.heap.size=c.sb:=e
    omega
   ·have:w3.heap.size=c.nb:=e
    omega
   ·have:=hwvlt _ e;exact absurd this (Nat.lt_irrefl _)
  ·rcases hmut j e with q|q|q
   ·exact .inl (h.bm j q.1)
   ·exact .inr (.inl q)
   ·exact .inr (.inr q)
  ·have hsz:((w3.alloc (.map #[] 0)).setCell ⟨c.F,196,none⟩ (.map (some w3.heap.size))).heap.size=w3.heap.size+1:=by simp
   rcases e with e|e|e
   ·have:=hlt j e;omega
   ·omega
   ·have:=hwvlt j e;omega
 refine⟨_,wc,l,l',hst,⟨_,_,_,_,rfl,hzl⟩,hdw5,hjo,hwo,h64,htd,hsm,hff,hwp,hss,fun y hy j e=>⟨by have:=hwb y hy j e;omega,fun q=>?_⟩,fun j e=>by have:=hwn j e;omega,(Upd.below hb).trans hu5⟩
 have h1:=hwb y hy j e
 have h2:=((hdw.ok y hy).2.2 j e)
 rcases q with q|q|q
 ·have:=hlt j q;omega
 ·omega
 ·exact h2.1 (.inr (.inr (.inr q)))
theorem syncF_is (h:FSt w c x)(hna:x.na≤1000)(hdm:∀l:List Nat,l.Nodup→(∀p∈l,(x.td p).isSome=true)→l.length≤12)(hk:∀p s,x.td p=some s→(0≤p∧p<256)∧(p<5∨37≤p))(h0:∃p s,x.td p=some s) {q:Nat}(hq:x.sq=q)(hq2:q+1<4294967296) :
  Calls Tryz.prog 24 #[.pointer (some ⟨c.F,0,none⟩)] w fun e w'=>e=.returned (.int .i64 0)∧∃x' wc l l',Synced w w' c x q x' wc l l':=by
 have hmm:=@run_makeMap Tryz.prog
 have c1:=h.c1
 have hdr:Below w.heap.size w w.drew:=(Below.refl _ _).drew
 have HW:=Lib.hid (writes_is (h.keep hdr) hna hdm (fun p s e=>(hk p s e).1) h0)
 have HH:=Lib.hid h
 have HK:=Lib.hid (And.intro hk (And.intro hq hq2))
 clear hdr h hna hdm hk h0 hq hq2
 go_enter Tryz.func24,Tryz.ntmps24
 go_upto_region 1 with fail
 go_region_held3 (fun wx=>wx.cell? ⟨c.F,1,none⟩=some (.pointer (some ⟨c.L,0,none⟩))) (first|assumption|exact hS2|exact hS3)
  (first|((go_at_call 62;(with_reducible refine HW.out.mono ?_);rintro e2 w2 ⟨g,cap,l,rfl,hgs,hsr,htd,hne,hl12,hb2⟩;have hb2':Below w.heap.size w w2:=(Below.refl w.heap.size w).drew.trans hb2;have hF2:=HH.out.keep hb2';have hS2:=hF2.c1;obtain⟨HCM,HL⟩:=sync_pre HH.out HK.out.1 HK.out.2.1 HK.out.2.2 hb2' (show w.heap.size≤g from hgs) hsr htd hne hl12;have HQ:=Lib.hid (And.intro hgs (And.intro htd (And.intro hb2' HL.out)));clear hb2 hF2 hgs hsr htd hne hl12 hb2'))|((go_at_call 61;refine HCM.out.mono ?_;rintro e3 w3 ⟨rfl,hlg3,hx3,hu3⟩;have hS3:=sync_c1 HH.out HQ.out.2.2.1 hu3;have HC3:=Lib.hid (And.intro hlg3 (And.intro hx3 hu3));clear hlg3 hx3 hu3)))
 all_goals
  have HS:=Lib.hid (sync_fst HH.out HK.out.2.1 HQ.out.2.2.1 HQ.out.2.2.2.1 HQ.out.2.2.2.2 HQ.out.2.1 HC3.out.1 HC3.out.2.1 HC3.out.2.2)
  obtain⟨HR4,HF4⟩:Hid ((w3.alloc (.map #[] 0)).cell? ⟨c.F,196,none⟩=some (.map (some x.a)))∧Hid ((w3.alloc (.map #[] 0)).frozen? ⟨c.F,196,none⟩=false):=sync_c5 HH.out HQ.out.2.2.1 HC3.out.2.2
  have c5:=HR4.out
  have f5:=HF4.out
  clear hS2 hS3 c1 HR4 HF4 HCM HQ HC3
  go_wp2_with fail
  go_ret
  exact⟨rfl,HS.out⟩
end
theorem sumW_congr:∀ {l l2:List WR},(l2.map fun y=>(y.n,y.l))=(l.map fun y=>(y.n,y.l))→sumW l2=sumW l:=by
 have:∀(l l2:List WR) (n:Int),(l2.map fun y=>(y.n,y.l))=(l.map fun y=>(y.n,y.l))→l2.foldl stW n=l.foldl stW n:=by
  intro l
  induction l with
  | nil=>
   intro l2 n h
   have:l2=[]:=by simpa using h
   rw[this]
  | cons x l ih=>
   intro l2 n h
   rcases l2 with _|⟨y,l2⟩
   ·simp at h
   ·rw[List.map_cons,List.map_cons,List.cons.injEq] at h
    have e1:y.n=x.n:=congrArg Prod.fst h.1
    have e2:y.l=x.l:=congrArg Prod.snd h.1
    show l2.foldl stW (stW n y)=l.foldl stW (stW n x)
    rw[show stW n y=stW n x by unfold stW;rw[e1,e2]]
    exact ih l2 _ h.2
 intro l l2 h
 exact this l l2 _ h
structure SI (B:Nat) (w:World) (l:List WR) (i:Nat) (tv:Value) (l2:List WR):Prop where
 ro:WO B w tv l2
 pr:(l2.map fun y=>(y.n,y.l))=((l.take i).map fun y=>(y.n,y.l))
 da:∀y∈l2,At (Value.int .u8) 0 w y.v y.l∧∃b c,y.v=.slice (some ⟨b,0,none⟩) 64 c∧B≤b∧b<w.heap.size∧tv.ownBlock≠some b
theorem SI.keep {B i:Nat} {w w':World} {l l2:List WR} {tv:Value}(h:SI B w l i tv l2)(hw:Below w.heap.size w w'):SI B w' l i tv l2:=⟨owns_keep h.ro hw,h.pr,fun y hy=>by
  obtain⟨h1,b,c,h2,h3,h4,h5⟩:=h.da y hy
  exact⟨h1.keep hw,b,c,h2,h3,Nat.lt_of_lt_of_le h4 hw.size,h5⟩⟩
theorem WO.push2 {w:World} {B:Nat} {v:Value} {l:List WR}(h:WO B w v l)(hB:B≤w.heap.size) (x:WR)(hx:x.v.oneCell'=true)(h64:l.length<100000) :
  ∃p c w',(appJ #[v,.slice (some ⟨w.heap.size,0,none⟩) 1 1]).run Tryz.prog (w.alloc (.cells #[.int .i64 x.n,x.v] 228))=.ok (.slice p (l.length+1) c) w'∧WO B w' (.slice p (l.length+1) c) (l++[x])∧Below B w w'∧w.grownBy w' v.ownBlock∧((Value.slice p (l.length+1) c).ownBlock=v.ownBlock∨∃g,w.heap.size≤g∧(Value.slice p (l.length+1) c).ownBlock=some g):=by
 have hal:=(Below.refl B w).alloc hB (.cells #[.int .i64 x.n,x.v] 228)
 obtain⟨i0,hi,hz0,hz1,hz2⟩:=info_parts infoJ
 obtain⟨v',w',hr,ho,hg,hfr⟩:=run_append_fresh (P:=Tryz.prog) (w.alloc (.cells #[.int .i64 x.n,x.v] 228)) B 150 150 228 i0 _ 2 32 Tryz.underlying150 hi hz0 hz1 hz2 rfl (by decide) v l.length _ (owns_keep h (Go.Joins.below_alloc1 w _)) ⟨w.heap.size,0,none⟩ 1 1 [.int .i64 x.n,x.v] rfl (cells_new w [.int .i64 x.n,x.v] 228) (by intro u hu;simp at hu;rcases hu with rfl|rfl;rfl;exact hx) (by unfold maxLen;omega) (by omega) (Nat.le_trans hB hal.size)
 have ho':WO B w' v' (l++[x]):=by
  unfold WO
  rw[List.length_append,List.flatMap_append]
  exact ho
 obtain⟨p,c,hv⟩:=own_form ho
 subst hv
 exact⟨p,c,w',hr,ho',hal.trans ((Below.refl B _).grown hg (Nat.le_trans hB hal.size) (fun g hgg=>(h.lt g hgg).1)),grown_trans (Below.grownN (Go.Joins.below_alloc1 w _) _) hg,by
    rcases hfr with e|⟨g,q,e⟩
    · exact .inl e
    · exact .inr ⟨g,Nat.le_trans hal.size q,e⟩⟩
theorem SI.base {B B' i:Nat} {w:World} {l l2:List WR} {tv:Value}(h:SI B w l i tv l2)(hB:B'≤B):SI B' w l i tv l2:=⟨owns_base h.ro hB,h.pr,fun y hy=>by
  obtain⟨h1,b,c,h2,h3,h4,h5⟩:=h.da y hy
  exact⟨h1,b,c,h2,Nat.le_trans hB h3,h4,h5⟩⟩
section
variable {w w0:World} {D sb nb m:Nat} {wv:Value} {s f:List Int}
theorem read_s (h:Dk w D sb nb wv m 256 s f) {B i:Nat} {l l2:List WR} {pp:Option Addr} {nn cc:Nat}(hs:SI B w l i (.slice pp nn cc) l2)(hB:B≤w.heap.size)(hnn:nn=l2.length)(h12:l2.length≤12) {x:WR}(hx:l[i]?=some x)(hx64:x.l.length=64) {k:Nat}(hk:k<256)(hsec:sect f k=x.l):Calls Tryz.prog 47 #[.pointer (some ⟨D,0,none⟩),.int .i64 k] w fun e w9=>
  ∃a2 k2 w10 p10 c10,e=.returned (.tuple #[.slice a2 64 k2,.int .i64 0])∧Below w.heap.size w w9∧(appJ #[.slice pp nn cc,.slice (some ⟨w9.heap.size,0,none⟩) 1 1]).run Tryz.prog (w9.alloc (.cells #[.int .i64 x.n,.slice a2 64 k2] 228))=.ok (.slice p10 (nn+1) c10) w10∧Hid (SI B w10 l (i+1) (.slice p10 (nn+1) c10) (l2++[⟨x.n,.slice a2 64 k2,x.l⟩]))∧Hid (Below B w w10):=by
 subst hnn
 refine(read_is h hk).mono ?_
 rintro e w9 ⟨v2,rfl,ho9,hb9⟩
 rw[hsec] at ho9
 have hat9:=at_of_owned (f:=Value.int .u8) (d:=0) (xs:=x.l) (by rw[hx64];exact ho9)
 obtain⟨p2,k2,rfl⟩:=own_form ho9
 obtain⟨g2,rfl,q1,q2,q3,q4⟩:=own_block ho9 (by decide)
 have h9:=hs.keep hb9
 have hpl:∀j,(Value.slice pp l2.length cc).ownBlock=some j→B≤j∧j<w.heap.size:=fun j e=>hs.ro.lt j e
 obtain⟨p10,c10,w10,hap,hwo10,hb10,hg10,hfr⟩:=WO.push2 h9.ro (Nat.le_trans hB hb9.size) ⟨x.n,.slice (some ⟨g2,0,none⟩) 64 k2,x.l⟩ rfl (by omega)
 have hfr2:∀b,b<w9.heap.size→(Value.slice pp l2.length cc).ownBlock≠some b→(Value.slice p10 (l2.length+1) c10).ownBlock≠some b:=fun b hb hn=>by
  rcases hfr with e|⟨g,hg,e⟩
  ·rw[e];exact hn
  ·rw[e];intro e2;injection e2 with e2;omega
 have hu10:Upd (fun j=>(Value.slice pp l2.length cc).ownBlock=some j) w9 w10:=Upd.grown0 hg10 (fun b e _=>e)
 refine⟨_,k2,w10,p10,c10,rfl,hb9,hap,Lib.hid ⟨hwo10,?_,fun y hy=>?_⟩,Lib.hid ((hb9.mono hB).trans hb10)⟩
 ·rw[List.map_append,hs.pr,List.take_add_one,hx,Option.toList_some,List.map_append]
  rfl
 ·rcases List.mem_append.1 hy with q|q
  ·obtain⟨h1,b,c,h2,h3,h4,h5⟩:=h9.da y q
   refine⟨h1.updW hu10 (fun j e q=>?_),b,c,h2,h3,Nat.lt_of_lt_of_le h4 hu10.size,hfr2 b h4 h5⟩
   rw[h2] at e
   have e3:b=j:=Option.some.inj e
   subst e3
   exact h5 q
  ·rw[List.mem_singleton] at q
   subst q
   refine⟨hat9.updW hu10 (fun j e q=>?_),g2,k2,rfl,Nat.le_trans hB q1,Nat.lt_of_lt_of_le q2 hu10.size,hfr2 g2 q2 (fun e=>by have:=hpl _ e;omega)⟩
   have e3:g2=j:=Option.some.inj e
   have:=hpl j q
   omega
attribute [local go_sem ↓] appJ_eq
theorem scan2_is (h:Dk w D sb nb wv m 256 s f) {q:Nat} {l:List WR}(hj:JOk f q l)(ho:WrOk l)(h64:∀y∈l,y.l.length=64)(h0:l≠[])(hq:q<4294967296) {n:Nat}(hn:n=l.length):Calls Tryz.prog 109 #[.pointer (some ⟨D,0,none⟩),.int .i64 5,.int .i64 32] w fun e w'=>∃g cap l2,e=.returned (.tuple #[.slice (some ⟨g,0,none⟩) n cap,.int .u32 q,.bool true,.int .i64 0])∧SI w.heap.size w' l n (.slice (some ⟨g,0,none⟩) n cap) l2∧Below w.heap.size w w':=by
 have HRG:=Lib.hid (region_is h)
 have HRD:=Lib.hid (read_is h (k:=5) (by decide))
 have HH:=Lib.hid h
 have HJ:=Lib.hid hj
 have HO:=Lib.hid (And.intro ho (And.intro h64 (And.intro h0 (And.intro hq hn))))
 have hl12:=ho.le
 have hn12:n≤12:=by omega
 have hn1:1≤n:=by have:=List.length_pos_iff.2 h0;omega
 rw[hj.hd] at HRD
 have hhl:(headL q l).length=64:=headI_len q l.length l (by omega)
 have HHL:=Lib.hid hhl
 clear h hj ho h64 h0 hq hn
 go_enter Tryz.func109,Tryz.ntmps109
 go_upto_region 5 with (first|(go_at_call 189;refine HRG.out.mono ?_;rintro e1 w1 ⟨rfl,rfl⟩)|(go_at_call 47;refine HRD.out.mono ?_;rintro e1 w1 ⟨v1,rfl,ho1,hb1⟩))
 obtain⟨p1,c1,rfl⟩:=own_form ho1
 have hat:At (Value.int .u8) 0 w1 (.slice p1 64 c1) (headL q l):=at_of_owned (f:=Value.int .u8) (d:=0) (xs:=headL q l) (by rw[hhl];exact ho1)
 rcases At.cellB hat with e|⟨b,o,rfl,hlt,hc⟩
 ·rw[e] at hhl;cases hhl
 rw[hhl] at hc
 have k0:w1.cell? ⟨b,o,none⟩=some (.int .u8 74):=hc 0 (by decide)
 have k5:w1.cell? ⟨b,o+5,none⟩=some (.int .u8 n):=by rw[hc 5 (by decide)];show some (Value.int .u8 ((l.length:Nat):Int))=_;rw[HO.out.2.2.2.2]
 have HC:=Lib.hid (And.intro hlt hc)
 have HRE:=Lib.hid (jread_is (m:=q) (At.sub hat (lo:=1) (k:=63) (by rw[hhl];decide) hlt) (by decide) HO.out.2.2.2.1 (by rfl))
 have HB1:=Lib.hid hb1
 have n1:¬(n:Int)<1:=by omega
 have n2:¬(30:Int)<n:=by omega
 have hc1m:(c1:Int)≤9223372036854775807:=by obtain⟨a',c',e,q1,q2,_⟩:=hat;injection e with e1 e2 e3;unfold maxLen at q2;omega
 have hc64:(64:Int)≤c1:=by obtain⟨a',c',e,q1,q2,_⟩:=hat;injection e with e1 e2 e3;rw[hhl] at q1;omega
 clear hc hat ho1 hb1 hlt HRG HRD hhl
 go_upto_region 9 with (go_at_call 190;(with_reducible refine HRE.out.mono ?_);rintro e2 w2 ⟨rfl,nd,rfl⟩)
 have HB3:Hid (Below w.heap.size w (w1.drewN nd)):=Lib.hid (below_drewN HB1.out nd)
 have HC3:Hid (b<(w1.drewN nd).heap.size∧∀i,i<64→(w1.drewN nd).cell? ⟨b,o+i,none⟩=some (.int .u8 ((headL q l).getD i 0))):=Lib.hid HC.out
 clear k0 k5 HC HB1 HRE
 generalize w1.drewN nd=w3 at *
 have n12:(n:Int)≤12:=by omega
 go_wp2_with fail
 go_loopw [15,56] (fun tv iv wr=>∃(i:Nat) (pp:Option Addr) (nn cc:Nat) (l2:List WR),i≤n∧tv=.slice pp nn cc∧iv=.int .i64 i∧Hid (nn=l2.length)∧Hid (SI w3.heap.size wr l i (.slice pp nn cc) l2)∧Hid (Below w3.heap.size w3 wr)) (fun _ iv _=>n-(intOf iv).toNat)
 case atStart=>exact⟨0,none,0,0,[],by omega,rfl,by simp,Lib.hid rfl,Lib.hid ⟨World.ownsRow_nil _ _ _ _,rfl,fun _ e=>(nomatch e)⟩,Lib.hid (Below.refl _ _)⟩
 case round=>
  obtain⟨i,pp,nn,cc,l2,hi,rfl,rfl,HNN,HS,HB⟩:=hrel
  have HL2:Hid (l2.length=i):=Lib.hid (by
      have:=congrArg List.length HS.out.pr
      simp only[List.length_map,List.length_take] at this
      have:=HO.out.2.2.2.2
      omega)
  by_cases hlt:i<n
  ·have hji:(i:Int)<n:=by omega
   obtain⟨x,hx⟩:∃x,l[i]?=some x:=⟨_,List.getElem?_eq_getElem (by have:=HO.out.2.2.2.2;omega)⟩
   have hxm:=List.mem_of_getElem? hx
   have HRS:Hid (Calls Tryz.prog 47 #[.pointer (some ⟨D,0,none⟩),.int .i64 (6+(i:Int))] wr fun e w9=>∃a2 k2 w10 p10 c10,e=.returned (.tuple #[.slice a2 64 k2,.int .i64 0])∧Below wr.heap.size wr w9∧(appJ #[.slice pp nn cc,.slice (some ⟨w9.heap.size,0,none⟩) 1 1]).run Tryz.prog (w9.alloc (.cells #[.int .i64 x.n,.slice a2 64 k2] 228))=.ok (.slice p10 (nn+1) c10) w10∧Hid (SI w3.heap.size w10 l (i+1) (.slice p10 (nn+1) c10) (l2++[⟨x.n,.slice a2 64 k2,x.l⟩]))∧Hid (Below w3.heap.size wr w10)):=Lib.hid (by
        have:=read_s ((HH.out.keep HB3.out).keep HB.out) HS.out HB.out.size HNN.out (by have:=HL2.out;omega) hx (HO.out.2.1 x hxm) (k:=6+i) (by omega) (HJ.out.dat i x hx)
        rw[show ((6+i:Nat):Int)=6+(i:Int) by omega] at this
        exact this)
   have hx256:=(HO.out.1.pos x hxm).1
   have hhd:(headL q l).getD (6+i) 0=x.n:=by
    unfold headL
    have e:(74:Int)::wordL q++((l.length:Nat):Int)::((l.map fun y=>(y.n:Int))++zeros (58-l.length))=((74:Int)::wordL q++[((l.length:Nat):Int)])++((l.map fun y=>(y.n:Int))++zeros (58-l.length)):=by simp
    have hil:i<l.length:=(List.getElem?_eq_some_iff.1 hx).1
    rw[e,List.getD,List.getElem?_append_right (by simp[wordL] <;> omega),List.getElem?_append_left (by simp[wordL] <;> omega),show 6+i-((74:Int)::wordL q++[((l.length:Nat):Int)]).length=i by simp[wordL] <;> omega,List.getElem?_map,hx]
    rfl
   have kh:wr.cell? ⟨b,o+(6+i),none⟩=some (.int .u8 x.n):=by rw[(HB.out.cell (p:=⟨b,o+(6+i),none⟩) HC3.out.1),HC3.out.2 (6+i) (by omega),hhd]
   have HKH:=Lib.hid kh
   have hbl:b<wr.heap.size:=Nat.lt_of_lt_of_le HC3.out.1 HB.out.size
   have HBL:=Lib.hid hbl
   have bi:(6:Int)+i<64:=by omega
   clear hx hxm hhd hbl kh
   generalize x.n=xn at *
   go_wp2_with (go_at_call 47;(with_reducible refine HRS.out.mono ?_);rintro e5 w9 ⟨a2,k2,w10,p10,c10,rfl,hb9,hap,HS10,HB10⟩;have kh9:w9.cell? ⟨b,o+(6+i),none⟩=some (.int .u8 xn):=(hb9.cell (p:=⟨b,o+(6+i),none⟩) HBL.out).trans HKH.out;clear hb9)
   exact⟨⟨i+1,p10,nn+1,c10,_,by omega,rfl,by go_num,Lib.hid (by rw[HNN.out];simp),HS10,Lib.hid (HB.out.trans HB10.out)⟩,by simp[intOf];omega⟩
  ·obtain rfl:i=n:=by omega
   have hln:=HO.out.2.2.2.2
   have hT:l.take i=l:=List.take_of_length_le (by omega)
   have hne2:l2≠[]:=fun e=>by have:=HL2.out;rw[e] at this;simp at this;omega
   obtain⟨g,cap,hvv,hgB,hsr⟩:=SR.of_owns (T:=228) (K:=2) (A:=wrA) HS.out.ro wrA_size rfl hne2
   injection hvv with e1 e2 e3
   subst e1 e3
   have hnn:nn=i:=by rw[HNN.out,HL2.out]
   subst hnn
   have hwl:WL wr g l2:=⟨hsr.lt,fun k x e=>⟨hsr.cell e (j:=0) (by decide),hsr.cell e (j:=1) (by decide)⟩,fun y hy=>by
        have h1:(y.n,y.l)∈l.map fun y=>(y.n,y.l):=by rw[← hT,← HS.out.pr];exact List.mem_map.2 ⟨y,hy,rfl⟩
        obtain⟨x,hx,e⟩:=List.mem_map.1 h1
        have e1:x.n=y.n:=congrArg Prod.fst e
        have e2:x.l=y.l:=congrArg Prod.snd e
        exact⟨(HS.out.da y hy).1,by rw[← e2];exact HO.out.2.1 x hx,by rw[← e1];exact(HO.out.1.pos x hx).1⟩⟩
   have hsum:sumW l2=sumW l:=sumW_congr (by have:=HS.out.pr;rw[hT] at this;exact this)
   have HSR:=Lib.hid (sumW_range l)
   have htl:(tailL q l).length=64:=by simp[tailL,wordL,zeros_len]
   have HRD:Hid (Calls Tryz.prog 47 #[.pointer (some ⟨D,0,none⟩),.int .i64 (6+(nn:Int))] wr fun e w'=>∃b2 o2 k2,e=.returned (.tuple #[.slice (some ⟨b2,o2,none⟩) 64 k2,.int .i64 0])∧At (Value.int .u8) 0 w' (.slice (some ⟨b2,o2,none⟩) 64 k2) (tailL q l)∧b2<w'.heap.size∧(64:Int)≤k2∧(k2:Int)≤9223372036854775807∧Below wr.heap.size wr w'):=Lib.hid (by
        have hr:=read_is ((HH.out.keep HB3.out).keep HB.out) (k:=6+nn) (by omega)
        rw[show 6+nn=6+l.length by omega,HJ.out.tl,show ((6+l.length:Nat):Int)=6+(nn:Int) by omega] at hr
        refine hr.mono ?_
        rintro e w' ⟨v,rfl,hov,hbv⟩
        obtain⟨p2,k2,rfl⟩:=own_form hov
        have hat:At (Value.int .u8) 0 w' (.slice p2 64 k2) (tailL q l):=at_of_owned (f:=Value.int .u8) (d:=0) (xs:=tailL q l) (by rw[htl];exact hov)
        obtain⟨g2,rfl,q1,q2,q3,q4⟩:=own_block hov (by decide)
        unfold maxLen at q4
        exact⟨g2,0,k2,rfl,hat,q2,by omega,by omega,hbv⟩)
   have HQ:=Lib.hid (And.intro hwl (And.intro hsum (And.intro hsr.le (And.intro hsr.lm htl))))
   clear hT hne2 hsr hwl hsum hgB htl hln e2
   go_upto_region 17 with (go_at_call 47;(with_reducible refine HRD.out.mono ?_);rintro e5 w9 ⟨b2,o2,k2,rfl,hat9,hb2,hk64,hkm,hb9⟩)
   rcases At.cellB hat9 with e|⟨b2',o2',e,hlt2,hc2⟩
   ·have:=HQ.out.2.2.2.2;rw[e] at this;cases this
   injection e with e
   injection e with e1 e2
   subst e1 e2
   have t0:w9.cell? ⟨b2,o2,none⟩=some (.int .u8 67):=hc2 0 (by rw[HQ.out.2.2.2.2];decide)
   have HT1:=Lib.hid (jread_is (m:=q) (At.sub hat9 (lo:=1) (k:=63) (by rw[HQ.out.2.2.2.2];decide) hb2) (by decide) HO.out.2.2.2.1 (by rfl))
   have HT5:=Lib.hid (fun nd=>jread_is (m:=(sumW l).toNat) ((At.sub hat9 (lo:=5) (k:=59) (by rw[HQ.out.2.2.2.2];decide) hb2).keep (below_drewN (Below.refl w9.heap.size w9) nd)) (by decide) (by have:=HSR.out;omega) (by rfl))
   have HSM:Hid (∀nd,Calls Tryz.prog 133 #[.slice (some ⟨g,0,none⟩) nn cc] (w9.drewN nd) fun e w'=>e=.returned (.int .u32 ((sumW l).toNat:Nat))∧Below (w9.drewN nd).heap.size (w9.drewN nd) w'):=Lib.hid (fun nd=>by
        have:=Sum_is (n:=nn) ((HQ.out.1.keep hb9).keep (below_drewN (Below.refl w9.heap.size w9) nd)) HNN.out (by rw[HNN.out];exact HQ.out.2.2.1) HQ.out.2.2.2.1
        have e:Value.int .u32 (sumW l2)=.int .u32 ((sumW l).toNat:Nat):=by rw[HQ.out.2.1];congr 1;have:=HSR.out;omega
        rw[e] at this
        exact this)
   have HB9:Hid (∀nd,Below w.heap.size w (w9.drewN nd)):=Lib.hid (fun nd=>below_drewN ((HB3.out.trans (HB.out.mono HB3.out.size)).trans (hb9.mono (Nat.le_trans HB3.out.size HB.out.size))) nd)
   have HSI9:Hid (∀nd,SI w3.heap.size (w9.drewN nd) l nn (.slice (some ⟨g,0,none⟩) nn cc) l2):=Lib.hid (fun nd=>(HS.out.keep hb9).keep (below_drewN (Below.refl w9.heap.size w9) nd))
   clear hc2 hlt2 hat9 hb2 hb9
   generalize (sumW l).toNat=sm at *
   go_wp2_with (first|(go_at_call 190;(with_reducible refine HT1.out.mono ?_);rintro e6 w10 ⟨rfl,nd,rfl⟩)|(go_at_call 190;(with_reducible refine(HT5.out _).mono ?_);rintro e7 w11 ⟨rfl,nd2,rfl⟩)|(go_at_call 133;(with_reducible refine(HSM.out _).mono ?_);rintro e8 w12 ⟨rfl,hb12⟩;have HB12:=Lib.hid hb12;clear hb12))
   have hfin:=(HSI9.out _).keep HB12.out
   have hbel:=(HB9.out _).trans (HB12.out.mono (HB9.out _).size)
   exact bodyPost_ret (v:=.tuple #[.slice (some ⟨g,0,none⟩) nn cc,.int .u32 q,.bool true,.int .i64 0]) (by rw[results_tmp4 rfl];rfl) rfl ⟨g,cc,l2,rfl,hfin.base HB3.out.size,hbel⟩
end
end Go.Proofs.YtfkepfncgdlgoaaGreatDoor
