/- What holds from step to step of journal's Commit; its writes. -/
import Derived.Test.YtfkepfncgdlgoaaGreatDoorBaC
namespace Go.Proofs.YtfkepfncgdlgoaaGreatDoor
open Go.RowKit Go.Maps
set_option linter.unusedVariables false
set_option linter.unusedSimpArgs false
structure JS (w0 w:World) (L D sb nb g cap:Nat) (l:List WR) (q:Int) (wv:Value) (m:Nat) (s f:List Int):Prop where
 lg:LogR w L D q
 dk:Dk w D sb nb wv m 256 s f
 sr:SWr w g cap l
 ok:WsOk (fun j=>j=g∨j=L∨j=D∨j=sb∨j=nb) w l
 wn:∀j,wv.ownBlock=some j→w0.heap.size≤j
 ne:L≠g∧(L≠D∧L≠sb∧L≠nb)∧(g≠D∧g≠sb∧g≠nb)
 lt:L<w0.heap.size∧g<w0.heap.size∧D<w0.heap.size∧sb<w0.heap.size∧nb<w0.heap.size∧∀x∈l,∀j,x.v.ownBlock=some j→j<w0.heap.size
 up:Upd (fun j=>j=L∨j=D∨j=sb∨j=nb) w0 w
section
variable {w0 w w':World} {L D sb nb g cap m:Nat} {l:List WR} {q:Int} {wv:Value} {s f:List Int}
theorem LogR.upd {S:Nat→Prop}(h:LogR w L D q)(hu:Upd S w w')(hn:¬S L):LogR w' L D q:=Row.upd h hu hn
theorem JS.upd {S:Nat→Prop}(h:JS w0 w L D sb nb g cap l q wv m s f)(hu:Upd S w w')(hS:∀j,S j→w0.heap.size≤j∧wv.ownBlock≠some j):JS w0 w' L D sb nb g cap l q wv m s f:=by
 obtain⟨l1,l2,l3,l4,l5,l6⟩:=h.lt
 have n:∀ {j},j<w0.heap.size→¬S j:=fun hj e=>by have:=(hS _ e).1;omega
 exact⟨h.lg.upd hu (n l1),h.dk.upd8 hu (n l3) (n l4) (n l5) (fun j e q=>(hS j q).2 e),h.sr.upd hu (n l2),h.ok.upd hu (fun x hx j e=>n (l6 x hx j e)),h.wn,h.ne,h.lt,h.up.trans' hu (fun j hj e=>absurd e (n hj))⟩
theorem JS.keep (h:JS w0 w L D sb nb g cap l q wv m s f)(hb:Below w.heap.size w w'):JS w0 w' L D sb nb g cap l q wv m s f:=h.upd (S:=fun _=>False) (Upd.below hb) (fun _ e=>e.elim)
theorem JS.size (h:JS w0 w L D sb nb g cap l q wv m s f):w0.heap.size≤w.heap.size:=h.up.size
theorem JS.nD (h:JS w0 w L D sb nb g cap l q wv m s f) {j:Nat}(h0:w0.heap.size≤j)(h1:wv.ownBlock≠some j):¬Dset D sb nb wv j:=by
 obtain⟨l1,l2,l3,l4,l5,l6⟩:=h.lt
 rintro (e|e|e|e)
 ·omega
 ·omega
 ·omega
 ·exact h1 e
theorem JS.c0 (h:JS w0 w L D sb nb g cap l q wv m s f):w.cell? ⟨L,0,none⟩=some (.pointer (some ⟨D,0,none⟩)):=by rw[Row.cell h.lg];rfl
theorem JS.c1 (h:JS w0 w L D sb nb g cap l q wv m s f):w.cell? ⟨L,1,none⟩=some (.int .i64 5):=by rw[Row.cell h.lg];rfl
theorem JS.c3 (h:JS w0 w L D sb nb g cap l q wv m s f):w.cell? ⟨L,3,none⟩=some (.int .u32 q):=by rw[Row.cell h.lg];rfl
theorem JS.mine (h:JS w0 w L D sb nb g cap l q wv m s f) {j:Nat}(h0:w0.heap.size≤j):j≠D∧j≠sb∧j≠nb∧j≠L∧j≠g:=by
 obtain⟨l1,l2,l3,l4,l5,l6⟩:=h.lt
 exact⟨by omega,by omega,by omega,by omega,by omega⟩
theorem JS.wrote (h:JS w0 w L D sb nb g cap l q wv m s f) {k:Nat} {z:List Int} {e:Ending}(hp:WritePost D sb nb wv m 256 s f k z w e w'):e=.returned (.int .i64 0)∧∃v',JS w0 w' L D sb nb g cap l q v' (m+1) s (putS f k z)∧Upd (Dset D sb nb wv) w w'∧∀j,j<w.heap.size→wv.ownBlock≠some j→v'.ownBlock≠some j:=by
 obtain⟨e1,v',hd,hu,hf⟩:=hp
 obtain⟨l1,l2,l3,l4,l5,l6⟩:=h.lt
 obtain⟨n1,⟨n2,n3,n4⟩,n5,n6,n7⟩:=h.ne
 have hL:¬Dset D sb nb wv L:=by
  rintro (e|e|e|e)
  ·exact n2 e
  ·exact n3 e
  ·exact n4 e
  ·have:=h.wn _ e;omega
 have hg:¬Dset D sb nb wv g:=by
  rintro (e|e|e|e)
  ·exact n5 e
  ·exact n6 e
  ·exact n7 e
  ·have:=h.wn _ e;omega
 have hx:∀x∈l,∀j,x.v.ownBlock=some j→¬Dset D sb nb wv j:=fun x hx j e=>by
  have hb:=((h.ok x hx).2.2 j e).1
  have hj:=l6 x hx j e
  rintro (e2|e2|e2|e2)
  ·exact hb (.inr (.inr (.inl e2)))
  ·exact hb (.inr (.inr (.inr (.inl e2))))
  ·exact hb (.inr (.inr (.inr (.inr e2))))
  ·have:=h.wn _ e2;omega
 refine⟨e1,v',⟨h.lg.upd hu hL,hd,h.sr.upd hu hg,h.ok.upd hu hx,fun j e=>?_,h.ne,h.lt,h.up.trans' hu (fun j hj e=>?_)⟩,hu,fun j hj hn e=>?_⟩
 ·rcases hf with q|⟨g9,q,q2⟩
  ·rw[q] at e;exact h.wn j e
  ·rw[q2] at e
   have e3:g9=j:=Option.some.inj e
   have:=h.size
   omega
 ·rcases e with e|e|e|e
  ·exact .inr (.inl e)
  ·exact .inr (.inr (.inl e))
  ·exact .inr (.inr (.inr e))
  ·have:=h.wn _ e;omega
 ·rcases hf with q|⟨g9,q,q2⟩
  ·rw[q] at e;exact hn e
  ·rw[q2] at e
   have e3:g9=j:=Option.some.inj e
   omega
theorem jwrite_is (h:JS w0 w L D sb nb g cap l q wv m s f) {k:Nat}(hk:k<256) {v:Value} {z:List Int}(hz:z.length=64)(hv:At (Value.int .u8) 0 w v z)(hm:m≤100000)(hnv:∀j,v.ownBlock=some j→¬Dset D sb nb wv j):Calls Tryz.prog 41 #[.pointer (some ⟨D,0,none⟩),.int .i64 k,v] w fun e w'=>e=.returned (.int .i64 0)∧∃v',JS w0 w' L D sb nb g cap l q v' (m+1) s (putS f k z)∧Upd (Dset D sb nb wv) w w'∧∀j,j<w.heap.size→wv.ownBlock≠some j→v'.ownBlock≠some j:=
 (write_is h.dk hk hz hv hm (fun a n c e=>hnv a.block (by rw[e];rfl))).mono (fun e w' hp=>h.wrote hp)
theorem jflush_is (h:JS w0 w L D sb nb g cap l q wv m s f):Calls Tryz.prog 46 #[.pointer (some ⟨D,0,none⟩)] w fun e w'=>e=.returned (.tuple #[])∧JS w0 w' L D sb nb g cap l q (.slice none 0 0) 0 f f∧Upd (fun j=>j=D∨j=sb) w w':=by
 refine(flush_is h.dk).mono ?_
 rintro e w' ⟨rfl,hd,hu⟩
 obtain⟨l1,l2,l3,l4,l5,l6⟩:=h.lt
 obtain⟨n1,⟨n2,n3,n4⟩,n5,n6,n7⟩:=h.ne
 refine⟨rfl,⟨h.lg.upd hu (fun e=>e.elim n2 n3),hd,h.sr.upd hu (fun e=>e.elim n5 n6),h.ok.upd hu (fun x hx j e q=>?_),fun j e=>(by cases e),h.ne,h.lt,h.up.trans' hu (fun j hj e=>?_)⟩,hu⟩
 ·have hb:=((h.ok x hx).2.2 j e).1
  rcases q with q|q
  ·exact hb (.inr (.inr (.inl q)))
  ·exact hb (.inr (.inr (.inr (.inl q))))
 ·rcases e with e|e
  ·exact .inr (.inl e)
  ·exact .inr (.inr (.inl e))
theorem JS.seq (h:JS w0 w L D sb nb g cap l q wv m s f) (q':Int):JS w0 (w.setCell ⟨L,3,none⟩ (.int .u32 q')) L D sb nb g cap l q' wv m s f:=by
 have hu:Upd (fun j=>j=L) w (w.setCell ⟨L,3,none⟩ (.int .u32 q')):=Upd.set _ _ rfl
 obtain⟨l1,l2,l3,l4,l5,l6⟩:=h.lt
 obtain⟨n1,⟨n2,n3,n4⟩,n5,n6,n7⟩:=h.ne
 have hlg:LogR (w.setCell ⟨L,3,none⟩ (.int .u32 q')) L D q':=by
  unfold LogR
  rw[Row.setCell h.lg]
  exact Row.setRow h.lg _
 exact⟨hlg,h.dk.upd8 hu (fun e=>n2 e.symm) (fun e=>n3 e.symm) (fun e=>n4 e.symm) (fun j e q=>by have:=h.wn j e;omega),h.sr.upd hu (fun e=>n1 e.symm),h.ok.upd hu (fun x hx j e q=>((h.ok x hx).2.2 j e).1 (.inr (.inl q))),h.wn,h.ne,h.lt,h.up.trans' hu (fun j hj e=>.inl e)⟩
end
theorem BK.set {w:World} {g:Nat} {l:List Int}(h:BK w g l) {i:Nat}(hi:i<l.length) (x:Int):BK (w.setCell ⟨g,i,none⟩ (.int .u8 x)) g (l.set i x):=by
 have hr:Row w g 5 (l.map u8V).toArray:=h
 have:=hr.setRow ((l.map u8V).toArray.setIfInBounds i (.int .u8 x))
 rw[← hr.setCell] at this
 have e:(l.map u8V).toArray.setIfInBounds i (.int .u8 x)=((l.set i x).map u8V).toArray:=by
  rw[List.setIfInBounds_toArray,List.map_set]
 rw[e] at this
 exact this
theorem BK.fz {w:World} {g:Nat} {l:List Int}(h:BK w g l) (i:Nat):w.frozen? ⟨g,i,none⟩=false:=Row.fz h i
theorem BK.at {w:World} {g:Nat} {l:List Int}(h:BK w g l)(hl:l.length=64):At (Value.int .u8) 0 w (.slice (some ⟨g,0,none⟩) 64 64) l:=by
 refine⟨some ⟨g,0,none⟩,64,by rw[hl],by omega,by decide,.inr ⟨g,0,rfl,h.lt,fun i hi=>?_⟩⟩
 rw[Nat.zero_add,h.cell hi]
def headL (q:Nat) (l:List WR):List Int:=(74:Int)::wordL q++((l.length:Nat):Int)::((l.map fun y=>(y.n:Int))++zeros (58-l.length))
def tailL (q:Nat) (l:List WR):List Int:=(67:Int)::wordL q++(wordL (sumW l).toNat++zeros 55)
def headI (q n:Nat) (l:List WR):List Int:=(74:Int)::wordL q++((n:Nat):Int)::((l.map fun y=>(y.n:Int))++zeros (58-l.length))
theorem headI_len (q n:Nat) (l:List WR)(h:l.length≤58):(headI q n l).length=64:=by
 simp[headI,wordL,zeros_len];omega
theorem headI_next (q n:Nat) {l:List WR} {x:WR}(h:l.length<58):(headI q n l).set (6+l.length) x.n=headI q n (l++[x]):=by
 unfold headI
 have e:(74:Int)::wordL q++((n:Nat):Int)::((l.map fun y=>(y.n:Int))++zeros (58-l.length))=((74:Int)::wordL q++[((n:Nat):Int)]++(l.map fun y=>(y.n:Int)))++zeros (58-l.length):=by simp
 rw[e,List.set_append_right _ _ (by simp[wordL];omega)]
 have e2:6+l.length-((74:Int)::wordL q++[((n:Nat):Int)]++(l.map fun y=>(y.n:Int))).length=0:=by simp[wordL];omega
 rw[e2,show 58-l.length=(58-(l.length+1))+1 by omega]
 simp[zeros,List.replicate_succ]
theorem head0 (q:Nat) (n:Int):splice (((zeros 64).set 0 74).set 5 n) 1 (wordL q)=(74:Int)::wordL q++n::(zeros 58):=by
 rfl
structure CI (w2 wr:World) (L D sb nb g cap zb hb:Nat) (l:List WR) (q n:Nat) (f5:List Int) (i ih id m:Nat) (wv:Value) (fI:List Int) (lt:List WR) (tv:Value):Prop where
 js:JS w2 wr L D sb nb g cap l ((q:Int)+1) wv m f5 fI
 z:BK wr zb (zeros 64)
 h:BK wr hb (headI (q+1) n (l.take ih))
 ro:RO (hb+1) wr tv lt
 pr:(lt.map fun y=>(y.n,y.l))=((l.take i).map fun y=>(y.n,y.l))
 da:∀y∈lt,At (Value.int .u8) 0 wr y.v y.l∧∃b c,y.v=.slice (some ⟨b,0,none⟩) 64 c∧hb<b∧b<wr.heap.size∧tv.ownBlock≠some b∧wv.ownBlock≠some b
 wz:wv.ownBlock≠some zb∧wv.ownBlock≠some hb∧∀j,tv.ownBlock=some j→wv.ownBlock≠some j
 zh:w2.heap.size≤zb∧zb<hb
 mi:m≤id
 dat:∀k y,k<id→l[k]?=some y→sect fI (6+k)=y.l
 off:∀p,p<256→(p<6∨6+id≤p)→sect fI p=sect f5 p
section
variable {w2 wr w':World} {L D sb nb g cap zb hb:Nat} {l:List WR} {q n:Nat} {f5:List Int} {i ih id m:Nat} {wv:Value} {fI:List Int} {lt:List WR} {tv:Value}
theorem CI.keep (h:CI w2 wr L D sb nb g cap zb hb l q n f5 i ih id m wv fI lt tv)(hw:Below wr.heap.size wr w'):CI w2 w' L D sb nb g cap zb hb l q n f5 i ih id m wv fI lt tv:=
 ⟨h.js.keep hw,h.z.keep hw,h.h.keep hw,owns_keep h.ro hw,h.pr,fun y hy=>by
    obtain⟨h1,b,c,h2,h3,h4,h5,h6⟩:=h.da y hy
    exact⟨h1.keep hw,b,c,h2,h3,Nat.lt_of_lt_of_le h4 hw.size,h5,h6⟩,h.wz,h.zh,h.mi,h.dat,h.off⟩
theorem CI.head (h:CI w2 wr L D sb nb g cap zb hb l q n f5 i ih id m wv fI lt tv) {x:WR}(hx:l[ih]?=some x)(h12:l.length≤12):CI w2 (wr.setCell ⟨hb,6+ih,none⟩ (.int .u8 x.n)) L D sb nb g cap zb hb l q n f5 i (ih+1) id m wv fI lt tv:=by
 have hu:Upd (fun j=>j=hb) wr (wr.setCell ⟨hb,6+ih,none⟩ (.int .u8 x.n)):=Upd.set _ _ rfl
 have hil:ih<l.length:=(List.getElem?_eq_some_iff.1 hx).1
 have htl:(l.take ih).length=ih:=by rw[List.length_take];omega
 have hh:=h.h.set (i:=6+ih) (by rw[headI_len _ _ _ (by omega)];omega) x.n
 have e:=headI_next (q+1) n (l:=l.take ih) (x:=x) (by omega)
 rw[htl] at e
 rw[e] at hh
 refine⟨h.js.upd hu (fun j q=>by rw[q];exact⟨by have:=h.zh;omega,h.wz.2.1⟩),h.z.upd hu (fun q=>by have:=h.zh.2;omega),by rw[List.take_add_one,hx,Option.toList_some];exact hh,hu.owns h.ro (fun g e q=>by have:=(h.ro.lt g e).1;omega),h.pr,fun y hy=>?_,h.wz,h.zh,h.mi,h.dat,h.off⟩
 obtain⟨h1,b,c,h2,h3,h4,h5,h6⟩:=h.da y hy
 refine⟨h1.updW hu (fun j e q=>?_),b,c,h2,h3,Nat.lt_of_lt_of_le h4 hu.size,h5,h6⟩
 rw[h2] at e
 have e3:b=j:=Option.some.inj e
 omega
theorem CI.data (h:CI w2 wr L D sb nb g cap zb hb l q n f5 i ih id m wv fI lt tv) {x:WR}(hx:l[id]?=some x)(hx64:x.l.length=64)(h12:l.length≤12) {v':Value}(hj:JS w2 w' L D sb nb g cap l ((q:Int)+1) v' (m+1) f5 (putS fI (6+id) x.l))(hu:Upd (Dset D sb nb wv) wr w')(hf:∀j,j<wr.heap.size→wv.ownBlock≠some j→v'.ownBlock≠some j):CI w2 w' L D sb nb g cap zb hb l q n f5 i ih (id+1) (m+1) v' (putS fI (6+id) x.l) lt tv:=by
 have hil:id<l.length:=(List.getElem?_eq_some_iff.1 hx).1
 have hz:=h.zh
 have hhb:hb<wr.heap.size:=h.h.lt
 refine⟨hj,h.z.upd hu (h.js.nD hz.1 h.wz.1),h.h.upd hu (h.js.nD (by omega) h.wz.2.1),hu.owns h.ro (fun j e=>h.js.nD (by have:=(h.ro.lt j e).1;omega) (h.wz.2.2 j e)),h.pr,fun y hy=>?_,⟨hf zb (by omega) h.wz.1,hf hb hhb h.wz.2.1,fun j e=>hf j (h.ro.lt j e).2 (h.wz.2.2 j e)⟩,hz,by have:=h.mi;omega,fun k y hk hy=>?_,fun p hp hr=>?_⟩
 ·obtain⟨h1,b,c,h2,h3,h4,h5,h6⟩:=h.da y hy
  refine⟨h1.updW hu (fun j e=>?_),b,c,h2,h3,Nat.lt_of_lt_of_le h4 hu.size,h5,hf b h4 h6⟩
  rw[h2] at e
  have e3:b=j:=Option.some.inj e
  subst e3
  exact h.js.nD (by omega) h6
 ·by_cases e:k=id
  ·subst e
   rw[hx] at hy
   obtain rfl:=Option.some.inj hy
   exact sect_same h.js.dk.lf (by omega) hx64
  ·rw[sect_other h.js.dk.lf (by omega) (by omega) hx64 (by omega)]
   exact h.dat k y (by omega) hy
 ·rw[sect_other h.js.dk.lf (by omega) hp hx64 (by omega)]
  exact h.off p hp (by omega)
theorem clone_t (h:CI w2 wr L D sb nb g cap zb hb l q n f5 i ih id m wv fI lt tv) {pp:Option Addr} {nn cc:Nat}(ht:tv=.slice pp nn cc)(hnn:nn=lt.length)(h12:lt.length≤12) {x:WR}(hx:l[i]?=some x) {pn:Nat}(hp0:wr.cell? ⟨pn,0,none⟩=some (.int .i64 x.n))(hp1:wr.cell? ⟨pn,1,none⟩=some x.v):Calls Tryz.prog 105 #[x.v] wr fun e w9=>
  ∃a2 k2 w10 p10 c10,e=.returned (.slice a2 64 k2)∧w9.cell? ⟨pn,0,none⟩=some (.int .i64 x.n)∧(w9.alloc (.cells #[.int .i64 x.n,.slice a2 64 k2,.bool false] 256)).cell? ⟨pn,0,none⟩=some (.int .i64 x.n)∧(Builtin.append_ #[254,254] 254 #[.slice pp nn cc,.slice (some ⟨w9.heap.size,0,none⟩) 1 1]).run Tryz.prog (w9.alloc (.cells #[.int .i64 x.n,.slice a2 64 k2,.bool false] 256))=.ok (.slice p10 (nn+1) c10) w10 ∧
   Hid (CI w2 w10 L D sb nb g cap zb hb l q n f5 (i+1) ih id m wv fI (lt++[⟨x.n,.slice a2 64 k2,x.l⟩]) (.slice p10 (nn+1) c10)):=by
 have hxm:=List.mem_of_getElem? hx
 obtain⟨hat,hx64,-⟩:=h.js.ok x hxm
 subst ht hnn
 refine(cloneB_is (by rw[hx64];omega) hat).mono ?_
 rintro e9 w9 ⟨v2,rfl,ho9,hb9⟩
 have hat9:=at_of_owned (f:=Value.int .u8) (d:=0) ho9
 rw[hx64] at ho9
 obtain⟨p2,k2,rfl⟩:=own_form ho9
 obtain⟨g2,rfl,q1,q2,q3,q4⟩:=own_block ho9 (by decide)
 have h9:=h.keep hb9
 have hpl:∀j,(Value.slice pp lt.length cc).ownBlock=some j→hb+1≤j∧j<wr.heap.size:=fun j e=>h.ro.lt j e
 have hhb:hb<wr.heap.size:=h.h.lt
 have hpn:pn<wr.heap.size:=by
  rcases Nat.lt_or_ge pn wr.heap.size with q|q
  ·exact q
  ·rw[World.cell?,Array.getElem?_eq_none q] at hp0;cases hp0
 have hp9:=(hb9.cell (p:=⟨pn,0,none⟩) hpn).trans hp0
 obtain⟨p10,c10,w10,hap,hro10,hb10,hg10,hfr⟩:=RO.push h9.ro (by have:=hb9.size;omega) ⟨x.n,.slice (some ⟨g2,0,none⟩) 64 k2,x.l⟩ rfl (by omega)
 have hfr2:∀b,b<w9.heap.size→(Value.slice pp lt.length cc).ownBlock≠some b→(Value.slice p10 (lt.length+1) c10).ownBlock≠some b:=fun b hb hn=>by
  rcases hfr with e|⟨g,hg,e⟩
  ·rw[e];exact hn
  ·rw[e];intro e2;injection e2 with e2;omega
 have hu10:Upd (fun j=>(Value.slice pp lt.length cc).ownBlock=some j) w9 w10:=Upd.grown0 hg10 (fun b e _=>e)
 have hz:=h.zh
 have hwv9:∀j,wv.ownBlock=some j→j<wr.heap.size:=fun j e=>by
  obtain⟨xs,ho⟩:=h.js.dk.own
  exact(ho.lt j e).2
 refine⟨_,k2,w10,p10,c10,rfl,hp9,((Go.Joins.below_alloc1 w9 _).cell (p:=⟨pn,0,none⟩) (Nat.lt_of_lt_of_le hpn hb9.size)).trans hp9,hap,Lib.hid ⟨h9.js.upd hu10 (fun j e=>⟨by have:=hpl j e;omega,h.wz.2.2 j e⟩),h9.z.upd hu10 (fun e=>by have:=hpl _ e;omega),h9.h.upd hu10 (fun e=>by have:=hpl _ e;omega),?_,?_,fun y hy=>?_,⟨h.wz.1,h.wz.2.1,fun j e q=>?_⟩,hz,h.mi,h.dat,h.off⟩⟩
 ·exact hro10
 ·rw[List.map_append,h.pr,List.take_add_one,hx,Option.toList_some,List.map_append]
  rfl
 ·rcases List.mem_append.1 hy with q|q
  ·obtain⟨h1,b,c,h2,h3,h4,h5,h6⟩:=h9.da y q
   refine⟨h1.updW hu10 (fun j e q=>?_),b,c,h2,h3,Nat.lt_of_lt_of_le h4 hu10.size,hfr2 b h4 h5,h6⟩
   rw[h2] at e
   have e3:b=j:=Option.some.inj e
   subst e3
   exact h5 q
  ·rw[List.mem_singleton] at q
   subst q
   refine⟨hat9.updW hu10 (fun j e q=>?_),g2,k2,rfl,by omega,Nat.lt_of_lt_of_le q2 hu10.size,hfr2 g2 q2 (fun e=>by have:=hpl _ e;omega),fun e=>by have:=hwv9 _ e;omega⟩
   have e3:g2=j:=Option.some.inj e
   have:=hpl j q
   omega
 ·have hj:=hwv9 j q
  have h1:=h.js.wn j q
  have:(Value.slice pp lt.length cc).ownBlock≠some j:=fun e2=>h.wz.2.2 j e2 q
  exact hfr2 j (Nat.lt_of_lt_of_le hj hb9.size) this e
structure CT (w2 w:World) (L D sb nb g cap hb:Nat) (l:List WR) (q n:Nat) (m:Nat) (wv:Value) (s f:List Int) (lt:List WR) (tv:Value):Prop where
 js:JS w2 w L D sb nb g cap l ((q:Int)+1) wv m s f
 h:BK w hb (headI (q+1) n l)
 ro:RO (hb+1) w tv lt
 pr:(lt.map fun y=>(y.n,y.l))=(l.map fun y=>(y.n,y.l))
 da:∀y∈lt,At (Value.int .u8) 0 w y.v y.l∧∃b c,y.v=.slice (some ⟨b,0,none⟩) 64 c∧hb<b∧b<w.heap.size∧tv.ownBlock≠some b∧wv.ownBlock≠some b
 wz:wv.ownBlock≠some hb∧∀j,tv.ownBlock=some j→wv.ownBlock≠some j
 zh:w2.heap.size≤hb
theorem CI.ct (h:CI w2 wr L D sb nb g cap zb hb l q n f5 i ih id m wv fI lt tv)(h1:l.take i=l)(h2:l.take ih=l):CT w2 wr L D sb nb g cap hb l q n m wv f5 fI lt tv:=
 ⟨h.js,by rw[← h2];exact(by rw[h2];have:=h.h;rw[h2] at this;exact this),h.ro,by have:=h.pr;rw[h1] at this;exact this,h.da,h.wz.2,by have:=h.zh;omega⟩
variable {s f s' f':List Int}
theorem CT.upd {S:Nat→Prop}(h:CT w2 wr L D sb nb g cap hb l q n m wv s f lt tv)(hu:Upd S wr w')(hj:JS w2 w' L D sb nb g cap l ((q:Int)+1) wv m s f)(hS:∀j,w2.heap.size≤j→j<wr.heap.size→wv.ownBlock≠some j→¬S j):CT w2 w' L D sb nb g cap hb l q n m wv s f lt tv:=by
 have hhb:hb<wr.heap.size:=h.h.lt
 have hz:=h.zh
 refine⟨hj,h.h.upd hu (hS hb hz hhb h.wz.1),hu.owns h.ro (fun j e=>hS j (by have:=(h.ro.lt j e).1;omega) (h.ro.lt j e).2 (h.wz.2 j e)),h.pr,fun y hy=>?_,h.wz,hz⟩
 obtain⟨h1,b,c,h2,h3,h4,h5,h6⟩:=h.da y hy
 refine⟨h1.updW hu (fun j e=>?_),b,c,h2,h3,Nat.lt_of_lt_of_le h4 hu.size,h5,h6⟩
 rw[h2] at e
 have e3:b=j:=Option.some.inj e
 subst e3
 exact hS b (by omega) h4 h6
theorem CT.keep (h:CT w2 wr L D sb nb g cap hb l q n m wv s f lt tv)(hw:Below wr.heap.size wr w'):CT w2 w' L D sb nb g cap hb l q n m wv s f lt tv:=h.upd (S:=fun _=>False) (Upd.below hw) (h.js.keep hw) (fun _ _ _ _ e=>e)
theorem CT.own {tb:Nat}(h:CT w2 wr L D sb nb g cap hb l q n m wv s f lt tv)(hu:Upd (fun j=>j=tb) wr w')(h1:hb<tb)(h2:wv.ownBlock≠some tb)(h3:tv.ownBlock≠some tb)(h4:∀y∈lt,∀c,y.v≠.slice (some ⟨tb,0,none⟩) 64 c):CT w2 w' L D sb nb g cap hb l q n m wv s f lt tv:=by
 have hz:=h.zh
 refine⟨h.js.upd hu (fun j e=>by rw[e];exact⟨by omega,h2⟩),h.h.upd hu (fun e=>by omega),hu.owns h.ro (fun j e q=>h3 (by rw[e,q])),h.pr,fun y hy=>?_,h.wz,hz⟩
 obtain⟨q1,b,c,q2,q3,q4,q5,q6⟩:=h.da y hy
 refine⟨q1.updW hu (fun j e q=>?_),b,c,q2,q3,Nat.lt_of_lt_of_le q4 hu.size,q5,q6⟩
 have e3:b=j:=by rw[q2] at e;exact Option.some.inj e
 exact h4 y hy c (by rw[q2,e3,q])
theorem CT.wrote {v':Value} {m':Nat}(h:CT w2 wr L D sb nb g cap hb l q n m wv s f lt tv)(hj:JS w2 w' L D sb nb g cap l ((q:Int)+1) v' m' s f')(hu:Upd (Dset D sb nb wv) wr w')(hf:∀j,j<wr.heap.size→wv.ownBlock≠some j→v'.ownBlock≠some j):CT w2 w' L D sb nb g cap hb l q n m' v' s f' lt tv:=by
 have hhb:hb<wr.heap.size:=h.h.lt
 have hz:=h.zh
 refine⟨hj,h.h.upd hu (h.js.nD hz h.wz.1),hu.owns h.ro (fun j e=>h.js.nD (by have:=(h.ro.lt j e).1;omega) (h.wz.2 j e)),h.pr,fun y hy=>?_,⟨hf hb hhb h.wz.1,fun j e=>hf j (h.ro.lt j e).2 (h.wz.2 j e)⟩,hz⟩
 obtain⟨h1,b,c,h2,h3,h4,h5,h6⟩:=h.da y hy
 refine⟨h1.updW hu (fun j e=>?_),b,c,h2,h3,Nat.lt_of_lt_of_le h4 hu.size,h5,hf b h4 h6⟩
 rw[h2] at e
 have e3:b=j:=Option.some.inj e
 subst e3
 exact h.js.nD (by omega) h6
theorem CT.flushed (h:CT w2 wr L D sb nb g cap hb l q n m wv s f lt tv)(hj:JS w2 w' L D sb nb g cap l ((q:Int)+1) (.slice none 0 0) 0 f f)(hu:Upd (fun j=>j=D∨j=sb) wr w'):CT w2 w' L D sb nb g cap hb l q n 0 (.slice none 0 0) f f lt tv:=by
 have hz:=h.zh
 have hn:∀j,w2.heap.size≤j→¬(j=D∨j=sb):=fun j hj e=>e.elim (h.js.mine hj).1 (h.js.mine hj).2.1
 refine⟨hj,h.h.upd hu (hn hb hz),hu.owns h.ro (fun j e=>hn j (by have:=(h.ro.lt j e).1;omega)),h.pr,fun y hy=>?_,⟨by simp[Value.ownBlock],fun j e=>by simp[Value.ownBlock]⟩,hz⟩
 obtain⟨h1,b,c,h2,h3,h4,h5,h6⟩:=h.da y hy
 refine⟨h1.updW hu (fun j e=>?_),b,c,h2,h3,Nat.lt_of_lt_of_le h4 hu.size,h5,by simp[Value.ownBlock]⟩
 rw[h2] at e
 have e3:b=j:=Option.some.inj e
 subst e3
 exact hn b (by omega)
end
end Go.Proofs.YtfkepfncgdlgoaaGreatDoor
