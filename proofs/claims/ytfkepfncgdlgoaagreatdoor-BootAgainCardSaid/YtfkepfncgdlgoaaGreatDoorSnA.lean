/- What a Sync leaves on the disk, and what is read from it behind a crash. No walk here. The kernel's Sync. Printed by gen_sna.py. -/
import Derived.Test.YtfkepfncgdlgoaaGreatDoorAgA
import Derived.Test.YtfkepfncgdlgoaaGreatDoorScA
import Derived.Test.YtfkepfncgdlgoaaGreatDoorRwB
import Derived.Test.YtfkepfncgdlgoaaGreatDoorRwA
import Derived.Test.YtfkepfncgdlgoaaGreatDoorFsA
namespace Go.Proofs.YtfkepfncgdlgoaaGreatDoor
open Go.RowKit Go.Maps
set_option linter.unusedVariables false
set_option linter.unusedSimpArgs false
set_option maxRecDepth 100000
set_option maxHeartbeats 1000000
structure TodoN (x:FM) (l:List WR):Prop where
 nd:(l.map (fun y=>y.n)).Nodup
 mem:∀y∈l,∃s,x.td y.n=some s∧y.l=x.tb y.n
 of:∀p s,x.td p=some s→∃y∈l,(y.n:Int)=p
 sz:∀y∈l,y.n<256∧y.l.length=64
theorem TodoL.n {x:FM} {l:List WR}(h:TodoL x l)(hw:WrOk l)(h64:∀y∈l,y.l.length=64):TodoN x l:=⟨h.nd,fun y hy=>by obtain⟨s,e,_,e2⟩:=h.mem y hy;exact⟨s,e,e2⟩,h.of,fun y hy=>⟨(hw.pos y hy).1,h64 y hy⟩⟩
theorem SameW.mem {l l':List WR}(h:SameW l l') {y:WR}(hy:y∈l'):∃z∈l,z.n=y.n∧z.l=y.l:=by
 have:=h.mem_iff.1 (List.mem_map.2 ⟨y,hy,rfl⟩)
 obtain⟨z,hz,e⟩:=List.mem_map.1 this
 injection e with e1 e2
 exact⟨z,hz,e1,e2⟩
theorem SameW.symm {l l':List WR}(h:SameW l l'):SameW l' l:=List.Perm.symm h
theorem TodoN.same {x:FM} {l l':List WR}(h:TodoN x l)(hs:SameW l l'):TodoN x l':=by
 refine⟨?_,fun y hy=>?_,fun p s e=>?_,fun y hy=>?_⟩
 ·have:=(List.Perm.map Prod.fst hs).nodup_iff.2 (by rw[List.map_map];exact h.nd)
  rw[List.map_map] at this
  exact this
 ·obtain⟨z,hz,e1,e2⟩:=hs.mem hy
  obtain⟨s,q1,q2⟩:=h.mem z hz
  exact⟨s,by rw[← e1];exact q1,by rw[← e2,← e1];exact q2⟩
 ·obtain⟨y,hy,e⟩:=h.of p s e
  obtain⟨z,hz,e1,e2⟩:=hs.symm.mem hy
  exact⟨z,hz,by rw[e1];exact e⟩
 ·obtain⟨z,hz,e1,e2⟩:=hs.mem hy
  rw[← e1,← e2]
  exact h.sz z hz
theorem TodoN.sec {x:FM} {l:List WR}(h:TodoN x l) {f0:List Int}(hf:f0.length=256*64) {p:Nat}(hp:p<256)(h0:(∀y∈l,y.n≠p)→sect f0 p=sect x.f p):sect (wrAll f0 l) p=fsec x p:=by
 unfold fsec
 by_cases q:∃y∈l,y.n=p
 ·obtain⟨y,hy,rfl⟩:=q
  obtain⟨s,e1,e2⟩:=h.mem y hy
  rw[wrAll_on l hf h.sz h.nd y hy,e1,e2]
  rfl
 ·have q':∀y∈l,y.n≠p:=fun y hy e=>q ⟨y,hy,e⟩
  rw[wrAll_off l hf h.sz p hp q',h0 q']
  rcases e:x.td (p:Int) with _|s
  ·rfl
  ·obtain⟨y,hy,e⟩:=h.of p s e
   exact absurd (by omega) (q' y hy)
structure SyncT (x:FM) (q:Nat) (x':FM) (wc l l':List WR):Prop where
 en:x'.nd=x.nd
 eG:x'.G=x.G
 td:∀p,x'.td p=none
 na:x'.na=0
 eh:x'.held=x.held∧x'.nh=x.nh
 wm:x'.wm=wc.length
 wx:x'.wx=wc.flatMap wrC
 sc:∀y∈wc,y.n<256
 jo:JOk x'.s (q+1) l
 wo:WrOk l
 l64:∀y∈l,y.l.length=64
 l0:l≠[]
 tn:TodoN x l
 sm:SameW l l'
 ff:x'.f=wrAll x'.s l'
 wp:(wc.map fun y=>(y.n,y.l))=(l'.map fun y=>(y.n,y.l))
 ss:∀p,p<256→(p<5∨37≤p)→sect x'.s p=sect x.f p
 ls:x'.s.length=256*64
theorem Synced.t {w w':World} {c:FC} {x:FM} {q:Nat} {x':FM} {wc l l':List WR}(h:Synced w w' c x q x' wc l l')(h0:∃p s,x.td p=some s):SyncT x q x' wc l l':=by
 obtain⟨a',wv',s',f',e,_⟩:=h.eq
 have hs:x'.s.length=256*64:=h.st.dk.ls
 refine⟨by rw[e];rfl,by rw[e];rfl,fun p=>by rw[e];rfl,by rw[e];rfl,by rw[e];exact⟨rfl,rfl⟩,by rw[e];rfl,by rw[e];rfl,h.dw.sc,h.jo,h.wo,h.l64,fun e=>?_,h.td.n h.wo h.l64,h.sm,h.ff,h.wp,h.ss,hs⟩
 obtain⟨p,s,e2⟩:=h0
 obtain⟨y,hy,_⟩:=h.td.of p s e2
 rw[e] at hy
 cases hy
theorem SyncT.fsec {x:FM} {q:Nat} {x':FM} {wc l l':List WR}(h:SyncT x q x' wc l l') {p:Nat}(hp:p<256)(hr:p<5∨37≤p):fsec x' p=fsec x p:=by
 have e:Go.Proofs.YtfkepfncgdlgoaaGreatDoor.fsec x' p=sect x'.f p:=by unfold Go.Proofs.YtfkepfncgdlgoaaGreatDoor.fsec;rw[h.td];rfl
 rw[e,h.ff]
 exact(h.tn.same h.sm).sec h.ls hp (fun _=>h.ss p hp hr)
def Crashed (s s2:List Int) (wc:List WR):Prop:=s2.length=256*64∧∀p,p<256→(∀y∈wc,y.n≠p)→sect s2 p=sect s p
theorem SyncT.wcn {x:FM} {q:Nat} {x':FM} {wc l l':List WR}(h:SyncT x q x' wc l l') {p:Nat}(hn:∀y∈l,y.n≠p):∀y∈wc,y.n≠p:=fun y hy e=>by
 have:(y.n,y.l)∈wc.map fun y=>(y.n,y.l):=List.mem_map.2 ⟨y,hy,rfl⟩
 rw[h.wp] at this
 obtain⟨z,hz,e2⟩:=List.mem_map.1 this
 injection e2 with e3 e4
 obtain⟨z2,hz2,e5,_⟩:=h.sm.mem hz
 exact hn z2 hz2 (by omega)
theorem SyncT.log {x:FM} {q:Nat} {x':FM} {wc l l':List WR}(h:SyncT x q x' wc l l') {p:Nat}(hp:5≤p∧p<37):∀y∈wc,y.n≠p:=h.wcn (fun y hy e=>by have:=h.wo.pos y hy;omega)
theorem SyncT.jo2 {x:FM} {q:Nat} {x':FM} {wc l l':List WR}(h:SyncT x q x' wc l l') {s2:List Int}(hc:Crashed x'.s s2 wc):JOk s2 (q+1) l:=by
 have h12:=h.wo.le
 refine⟨by rw[hc.2 5 (by decide) (h.log (by decide))];exact h.jo.hd,fun i y hy=>?_,?_⟩
 ·have hi:=(List.getElem?_eq_some_iff.1 hy).1
  rw[hc.2 (6+i) (by omega) (h.log (by omega))]
  exact h.jo.dat i y hy
 ·rw[hc.2 (6+l.length) (by omega) (h.log (by omega))]
  exact h.jo.tl
theorem SyncT.sec2 {x:FM} {q:Nat} {x':FM} {wc l l':List WR}(h:SyncT x q x' wc l l') {s2:List Int}(hc:Crashed x'.s s2 wc) {p:Nat}(hp:p<256)(hr:p<5∨37≤p):sect (wrAll s2 l) p=Go.Proofs.YtfkepfncgdlgoaaGreatDoor.fsec x p:=
 h.tn.sec hc.1 hp (fun hn=>by rw[hc.2 p hp (h.wcn hn),h.ss p hp hr])
theorem SyncT.mark {x:FM} {q:Nat} {x':FM} {wc l l':List WR}(h:SyncT x q x' wc l l') {s2:List Int}(hc:Crashed x'.s s2 wc)(hd:DOk x):sect s2 0=markL:=by
 have hn:∀y∈l,y.n≠0:=fun y hy e=>by
  obtain⟨s,e1,_⟩:=h.tn.mem y hy
  have:=hd.td _ s e1
  omega
 have e:=h.sec2 hc (p:=0) (by decide) (by decide)
 rw[wrAll_off l hc.1 h.tn.sz 0 (by decide) hn] at e
 rw[e]
 exact hd.ma
theorem catS_of {f g:List Int}(hg:g.length=192)(h:∀i,i<3→sect f (1+i)=(g.drop (64*i)).take 64):catS f 3=g:=by
 show (([]++sect f (1+0))++sect f (1+1))++sect f (1+2)=g
 rw[h 0 (by decide),h 1 (by decide),h 2 (by decide),List.nil_append]
 apply List.ext_getElem?
 intro j
 rw[List.append_assoc]
 by_cases h0:j<64
 ·rw[List.getElem?_append_left (by simp[hg];omega),List.getElem?_take,if_pos h0,List.getElem?_drop]
  congr 1;omega
 ·rw[List.getElem?_append_right (by simp[hg];omega)]
  have l0:((g.drop (64*0)).take 64).length=64:=by simp[hg]
  have l1:((g.drop (64*1)).take 64).length=64:=by simp[hg]
  rw[l0]
  by_cases h1:j<128
  ·rw[List.getElem?_append_left (by rw[l1];omega),List.getElem?_take,if_pos (by omega),List.getElem?_drop]
   congr 1;omega
  ·rw[List.getElem?_append_right (by rw[l1];omega),l1,List.getElem?_take]
   by_cases h2:j<192
   ·rw[if_pos (by omega),List.getElem?_drop,show 64*2+(j-64-64)=j by omega]
   ·exact(if_neg (by omega)).trans (List.getElem?_eq_none (by omega)).symm
theorem bits420:∀n:Fin 101,bits BinOp.or IntKind.i64 (IntKind.i64.wrap (n.val:Int)) (IntKind.i64.wrap ((IntKind.i64.wrap 0)*256))=(n.val:Int):=by decide +kernel
theorem xunp1 {a:Int} {n:Nat}(hpk:pk16 (runP a n)=a::(n:Int)::zeros 14)(ha:1≤a∧a+n≤256)(hn:1≤n∧n≤8):XUnp (pk16 (runP a n)) (runP a n):=fun w v hv=>by
 rw[hpk] at hv
 refine(xunpackR_is hv rfl hpk ha hn).mono ?_
 rintro e w' ⟨p,c,rfl,ho,hb⟩
 refine⟨p,c,by rw[runP_len],?_,hb⟩
 rw[runP_len]
 exact ho
theorem xunp0:XUnp (zeros 16) []:=fun w v hv=>(xunpack_is hv).mono (by
  rintro e w' ⟨rfl,hb⟩
  exact⟨none,0,rfl,World.ownsRow_nil _ _ _ _,hb⟩)
theorem nunp_root {x:Nd}(h1:x.k=2)(h2:x.m=493)(h3:x.u=0)(h4:x.g=0)(h5:x.sz=16)(h6:x.l=1)(h7:x.up=1)(h8:x.ps=[53]):NUnp (ndB x) x∧(ndB x).length=32:=by
 obtain⟨k,m,u,g,sz,l,up,pv,ps⟩:=x
 dsimp only at h1 h2 h3 h4 h5 h6 h7 h8
 subst h1 h2 h3 h4 h5 h6 h7 h8
 have hl:ndL ⟨2,493,0,0,16,1,1,pv,[53]⟩=(2::237::1::0::0::16::0::1::1::(pk16 [53]++zeros 7)):=by
  show ndL ⟨2,493,0,0,16,1,1,.slice none 0 0,[53]⟩=_
  decide
 refine⟨?_,by show (ndL _).length=32;rw[hl];decide⟩
 refine NUnp.of (x0:=2) (x1:=237) (x2:=1) (x3:=0) (x4:=0) (x5:=16) (x6:=0) (x7:=1) (x8:=1) (zs:=pk16 [53]) (by decide) ?_ ?_ ⟨by simp,by simp,by simp,by simp,by simp,.inl ⟨rfl,by simp⟩,⟨(by decide:([53]:List Int).length≤8),(by decide:∀p∈([53]:List Int),0≤p∧p<256)⟩,16,rfl,by decide,rfl⟩ hl
 ·show _=_
  rfl
 ·exact xunp1 (a:=53) (n:=1) (by decide) (by decide) (by decide)
def fileN (n:Nat) (pv:Value):Nd:=⟨1,420,0,0,n,1,0,pv,pts 54 ((n+63) / 64) ((n+63) / 64)⟩
theorem ndL_file:∀n:Fin 101,ndL (fileN n.val (.slice none 0 0))=(1::164::1::0::0::(n.val:Int)::0::1::0::(pk16 (pts 54 ((n.val+63) / 64) ((n.val+63) / 64))++zeros 7)):=by decide +kernel
theorem nunp_file {n:Nat}(hn:n≤100) (pv:Value):NUnp (ndB (fileN n pv)) (fileN n pv)∧(ndB (fileN n pv)).length=32:=by
 have hl:ndL (fileN n pv)=(1::164::1::0::0::(n:Int)::0::1::0::(pk16 (pts 54 ((n+63) / 64) ((n+63) / 64))++zeros 7)):=ndL_file ⟨n,by omega⟩
 have hK:(n+63) / 64=0∨(n+63) / 64=1∨(n+63) / 64=2:=by omega
 have hb:=bits420 ⟨n,by omega⟩
 have hw:IntKind.i64.wrap (n:Int)=n:=IntWalk.i64_in _ (by omega)
 have hps:(fileN n pv).ps=pts 54 ((n+63) / 64) ((n+63) / 64):=rfl
 have hX:(pk16 (pts 54 ((n+63) / 64) ((n+63) / 64))).length=16∧XUnp (pk16 (pts 54 ((n+63) / 64) ((n+63) / 64))) (pts 54 ((n+63) / 64) ((n+63) / 64))∧Secs (pts 54 ((n+63) / 64) ((n+63) / 64)):=by
  rcases hK with e|e|e
  ·rw[e];exact⟨by decide,xunp0,by decide,by decide⟩
  ·rw[e];exact⟨by decide,xunp1 (a:=54) (n:=1) (by decide) (by decide) (by decide),by decide,by decide⟩
  ·rw[e];exact⟨by decide,xunp1 (a:=54) (n:=2) (by decide) (by decide) (by decide),by decide,by decide⟩
 refine⟨?_,by show (ndL _).length=32;rw[hl];simp[hX.1,zeros_len]⟩
 refine NUnp.of (y:=fileN n pv) (x0:=1) (x1:=164) (x2:=1) (x3:=0) (x4:=0) (x5:=n) (x6:=0) (x7:=1) (x8:=0) (zs:=pk16 (pts 54 ((n+63) / 64) ((n+63) / 64))) hX.1 ?_ hX.2.1 ⟨by simp[fileN],by simp[fileN],by simp[fileN],by simp[fileN],by simp[fileN],.inr ⟨by simp[fileN],rfl⟩,hX.2.2,n,rfl,by omega,?_⟩ hl
 ·unfold NdBy
  rw[show bits BinOp.or IntKind.i64 (IntKind.i64.wrap (n:Int)) (IntKind.i64.wrap ((IntKind.i64.wrap 0)*256))=(n:Int) from hb]
  rfl
 ·rw[hps,pts_len]
theorem SyncT.fmt {w:World} {c:FC} {x:FM} {q:Nat} {x':FM} {wc l l':List WR}(h:SyncT x q x' wc l l')(hx:FSt w c x) {z:List Int}(hf:FileZ x 53 420 z)(hz:z.length≤100) {s2:List Int}(hc:Crashed x'.s s2 wc):FmtG (wrAll s2 l) x.G x.nd (fun c=>ndB (x.nd c)):=by
 have hd:=hf.dk
 have hlen:(wrAll s2 l).length=256*64:=wrAll_len l hc.1 h.tn.sz
 obtain⟨pv1,hn1⟩:=hf.n1
 have hn1:x.nd 1=fileN z.length pv1:=hn1
 have hn0:=nunp_root hf.k hf.m0 hf.u hf.g hf.sz hf.l0.1 hf.l0.2 hf.ps
 have hun:∀c,c<32→NUnp (ndB (x.nd c)) (x.nd c):=fun c hc=>by
  rcases c with _|_|c
  ·exact hn0.1
  ·rw[hn1];exact(nunp_file hz pv1).1
  ·rw[hf.nz _ (by omega) hc];exact NUnp.zero
 have hbl:∀c,c<32→(ndB (x.nd c)).length=32:=fun c hc=>by
  rcases c with _|_|c
  ·exact hn0.2
  ·rw[hn1];exact(nunp_file hz pv1).2
  ·rw[hf.nz _ (by omega) hc];rfl
 refine⟨?_,catS_of ?_ (fun i hi=>?_),⟨hx.fr,hx.lone.lt,hx.lone.t0,fun k i hk hi hG=>?_⟩,hd.gk,⟨fun i h' hi hh j hj=>?_,hbl⟩,hun,fun i hi=>?_⟩
 ·rw[h.sec2 hc (by decide) (by decide)];exact hd.qu
 ·exact pkS_len _ _
 ·rw[h.sec2 hc (by omega) (by omega)];exact hd.fo i hi
 ·have:k=0∨k=1∨k=2∨k=3:=by omega
  rcases this with rfl|rfl|rfl|rfl
  ·rw[Nat.zero_mul,Nat.zero_add,hd.gk i hi];omega
  ·exact absurd hx.lone.t1 hG
  ·exact absurd hx.lone.t2 hG
  ·exact absurd hx.lone.t3 hG
 ·have e:sect (wrAll s2 l) (37+i)=ndB (x.nd (2*i))++ndB (x.nd (2*i+1)):=by rw[h.sec2 hc (by omega) (by omega)];exact hd.nd i hi
  have g:=sect_get (f:=wrAll s2 l) (k:=37+i) (j:=32*h'+j) (by omega)
  rw[← g,e]
  have l0:=hbl (2*i) (by omega)
  rcases h' with _|_|h'
  ·simp only[List.getD,Nat.mul_zero,Nat.zero_add,Nat.add_zero]
   rw[List.getElem?_append_left (by omega)]
  ·simp only[List.getD,Nat.mul_one]
   rw[List.getElem?_append_right (by omega),l0,Nat.add_sub_cancel_left]
  ·omega
 ·rcases i with _|_|i
  ·right;rw[hf.l0.1];decide
  ·right;rw[hn1];simp[fileN]
  ·left;rw[hf.nz _ (by omega) hi];rfl
def HelW (B:Nat) (w:World) (s:KSt) (x:FM) (wc:List WR):Prop:=∀y∈wc,At (Value.int .u8) 0 w y.v y.l∧y.l.length=64∧∀j,y.v.ownBlock=some j→B≤j∧j<w.heap.size∧s.tag j=0∧¬x.bs j
theorem HelW.upd {S:Nat→Prop} {B:Nat} {w w':World} {s:KSt} {x:FM} {wc:List WR}(h:HelW B w s x wc)(hu:Upd S w w')(hS:∀j,B≤j→¬S j):HelW B w' s x wc:=fun y hy=>by
 obtain⟨h1,h2,h3⟩:=h y hy
 exact⟨h1.upd8 hu (fun j e=>hS j (h3 j e).1),h2,fun j e=>⟨(h3 j e).1,Nat.lt_of_lt_of_le (h3 j e).2.1 hu.size,(h3 j e).2.2⟩⟩
theorem HelW.keep {B:Nat} {w w':World} {s:KSt} {x:FM} {wc:List WR}(h:HelW B w s x wc)(hb:Below w.heap.size w w'):HelW B w' s x wc:=h.upd (S:=fun _=>False) (Upd.below hb) (fun _ _ e=>e)
theorem HelW.base {B B':Nat} {w:World} {s:KSt} {x:FM} {wc:List WR}(h:HelW B w s x wc)(hB:B'≤B):HelW B' w s x wc:=fun y hy=>by
 obtain⟨h1,h2,h3⟩:=h y hy
 exact⟨h1,h2,fun j e=>⟨Nat.le_trans hB (h3 j e).1,(h3 j e).2⟩⟩
theorem HelW.ask {B:Nat} {w w':World} {s s':KSt} {x x':FM} {wc:List WR}(h:HelW B w s x wc)(hu:Upd (fun j=>s.tag j≠0∨x.bs j∨w.heap.size≤j) w w')(hf:FarT s.tag w.heap.size s'.tag)(hb:∀j,x'.bs j→x.bs j∨w.heap.size≤j):HelW B w' s' x' wc:=fun y hy=>by
 obtain⟨h1,h2,h3⟩:=h y hy
 refine⟨h1.upd8 hu (fun j e q=>?_),h2,fun j e=>?_⟩
 ·obtain⟨_,q1,q2,q3⟩:=h3 j e
  rcases q with q|q|q
  ·exact q q2
  ·exact q3 q
  ·omega
 ·obtain⟨q0,q1,q2,q3⟩:=h3 j e
  refine⟨q0,Nat.lt_of_lt_of_le q1 hu.size,?_,fun q=>?_⟩
  ·cases Nat.eq_zero_or_pos (s'.tag j) with
   | inl e=>exact e
   | inr e=>
    rcases hf j (by omega) with e2|e2
    ·exact absurd q2 e2
    ·omega
  ·rcases hb j q with e2|e2
   ·exact q3 e2
   ·omega
def KOutS (B0:Nat) (k:KC) (fc:FC) (tag0:Nat→Nat) (bs0:Nat→Prop) (T:KSt→FM→List WR→Prop) (w:World) (X:Array Value) (w':World):Prop:=
 ∃s x wc,KF w' k s fc x∧FarT tag0 w.heap.size s.tag∧(∀j,x.bs j→bs0 j∨w.heap.size≤j)∧X=ansV 0 0 0 (.slice none 0 0)∧HelW w.heap.size w' s x wc∧T s x wc∧Upd (fun j=>tag0 j≠0∨bs0 j∨w.heap.size≤j) w w'
theorem koutS_ok {w0:World} {k:KC} {fc:FC} {tag0:Nat→Nat} {bs0:Nat→Prop}(hz:∀j,w0.heap.size≤j→tag0 j=0)(hb:∀j,bs0 j→j<w0.heap.size) (T:KSt→FM→List WR→Prop):OutOk w0 (KOutS w0.heap.size k fc tag0 bs0 T):=by
 refine⟨?_,?_,?_⟩
 ·rintro w w1 w2 b C X h0 h1 ⟨s,x,wc,hs,hf,hx,hX,ho,hT,hU⟩ hb0 hb1
  have z0:=h0.size
  have z1:=h1.size
  have u:Upd (fun k=>k=b) w2 (w2.setRow b C):=Upd.setRow w2 C rfl
  refine⟨s,x,wc,hs.upd u (fun j hj q=>?_) (fun j hj q=>?_),fun j hj=>?_,fun j hj=>?_,hX,(ho.upd u (fun g hg q=>?_)).base z1,hT,((Upd.below h1).trans (hU.mono fun i _ e=>?_)).trans' u (fun i hi e=>by omega)⟩
  ·have q:j=b:=q
   rcases hf j hj with e|e
   ·exact e (hz j (by omega))
   ·omega
  ·have q:j=b:=q
   rcases hx j hj with e|e
   ·have:=hb j e;omega
   ·omega
  ·exact(hf j hj).imp_right fun e=>by omega
  ·exact(hx j hj).imp_right fun e=>by omega
  ·have q:g=b:=q
   omega
  ·exact e.imp_right fun e=>e.imp_right fun e=>by omega
 ·rintro w w1 w2 X h0 h1 ⟨s,x,wc,hs,hf,hx,hX,ho,hT,hU⟩
  have z1:=h1.size
  exact⟨s,x,wc,hs,fun j hj=>(hf j hj).imp_right fun e=>by omega,fun j hj=>(hx j hj).imp_right fun e=>by omega,hX,ho.base z1,hT,(Upd.below h1).trans (hU.mono fun i _ e=>e.imp_right fun e=>e.imp_right fun e=>by omega)⟩
 ·rintro w X w2 w3 ⟨s,x,wc,hs,hf,hx,hX,ho,hT,hU⟩ hb
  exact⟨s,x,wc,hs.keep hb,hf,hx,hX,ho.keep hb,hT,hU.trans (Upd.below hb)⟩
theorem nodup_le:∀(l m:List Nat),l.Nodup→(∀p∈l,p∈m)→l.length≤m.length
 | [],m,_,_=>Nat.zero_le _
 | a::l,m,hn,h=>by
  rw[List.nodup_cons] at hn
  have ha:=h a (List.mem_cons_self ..)
  have:=nodup_le l (m.erase a) hn.2 (fun p hp=>(List.mem_erase_of_ne (show p≠a from fun e=>hn.1 (by rw[← e];exact hp))).2 (h p (List.mem_cons_of_mem _ hp)))
  have e:=List.length_erase_of_mem ha
  have h0:=List.length_pos_of_mem ha
  rw[List.length_cons]
  omega
theorem DOk.many {x:FM}(h:DOk x):∀l:List Nat,l.Nodup→(∀p∈l,(x.td p).isSome=true)→l.length≤12:=fun l hn hl=>by
 have:=nodup_le l [1,2,3,4,37,53,54,55,56,57,58] hn (fun p hp=>by
    have h1:=hl p hp
    rcases e:x.td (p:Int) with _|s
    · rw[e] at h1;cases h1
    · have:=h.td _ s e
      have:p=1∨p=2∨p=3∨p=4∨p=37∨p=53∨p=54∨p=55∨p=56∨p=57∨p=58:=by omega
      simpa using this)
 exact Nat.le_trans this (by decide)
section
variable {w:World} {k:KC} {s:KSt} {fc:FC} {x:FM}
theorem syncK_is (h:KF w k s fc x)(hd:DOk x)(ht:Told x)(hna:x.na≤1000):Calls Tryz.prog 24 #[.pointer (some ⟨fc.F,0,none⟩)] w fun e w'=>e=.returned (.int .i64 0)∧(∃x' wc,KF w' k s fc x'∧(∃l l',SyncT x 0 x' wc l l')∧HelW w.heap.size w' s x' wc∧∀j,x'.bs j→x.bs j∨w.heap.size≤j)∧Upd x.bs w w':=by
 have h37:∃p s,x.td p=some s:=by
  rcases e:x.td 37 with _|s
  ·have:=ht.1;rw[e] at this;cases this
  ·exact⟨37,s,e⟩
 refine(syncF_is h.fs hna hd.many (fun p s e=>by have:=hd.td p s e;omega) h37 (q:=0) ht.2 (by decide)).mono ?_
 rintro e w' ⟨rfl,x',wc,l,l',hs⟩
 obtain⟨a',wv',s',f',e,ha⟩:=hs.eq
 have hbs:∀j,x'.bs j→x.bs j∨w.heap.size≤j:=fun j hj=>by
  rw[e] at hj
  have hj:x.bs j∨j=a'∨wv'.ownBlock=some j:=hj
  rcases hj with hj|hj|hj
  ·exact .inl hj
  ·exact .inr (by omega)
  ·exact .inr (hs.wn j (by rw[e];exact hj))
 have hup:Upd x.bs w w':=hs.up.mono fun j _ e=>by
  rcases e with e|e|e|e|e
  ·exact h.fs.bm _ (.inl e)
  ·exact h.fs.bm _ (.inr (.inr (.inr (.inl e))))
  ·exact h.fs.bm _ (.inr (.inr (.inr (.inr (.inl e)))))
  ·exact h.fs.bm _ (.inr (.inr (.inr (.inr (.inr (.inl e))))))
  ·exact h.fs.bm _ (.inr (.inr (.inr (.inr (.inr (.inr (.inl e)))))))
 refine⟨rfl,⟨x',wc,⟨h.kt.upd hup (fun j hj q=>hj (h.sep j q)),h.c2,hs.st,fun j hj=>?_⟩,⟨l,l',hs.t h37⟩,fun y hy=>⟨(hs.dw.ok y hy).1,(hs.dw.ok y hy).2.1,fun j q=>⟨(hs.wb y hy j q).1,((hs.dw.ok y hy).2.2 j q).2,h.kt.tz j (hs.wb y hy j q).1,(hs.wb y hy j q).2⟩⟩,hbs⟩,hup⟩
 rcases hbs j hj with q|q
 ·exact h.sep j q
 ·exact h.kt.tz j q
end
section
variable {w0 w:World} {Out:World→Array Value→World→Prop} {k:KC} {s:KSt} {fc:FC} {x:FM} {p:Nat} {A:Array Value}
attribute [local go_sem ↓] ld_ans st_ans ld_call bd_ans
theorem doSy_is {K:Nat} {q:Int} (ok:OutOk w0 Out) {num:Int}(hn:num=25)(hA:A.size=7)(ha:A[0]?=some (.int .i64 num))(hs:Spec w0 Out 38 #[.pointer (some ⟨K,0,none⟩),.int .i64 q,.agg A]) :
  Spec w0 Out 18 #[.pointer (some ⟨K,0,none⟩),.int .i64 q,.agg A]:=by
 intro w h0
 have hb1:=Go.Joins.below_alloc1 w (.cells A 38)
 have hal:Below w.heap.size w ((w.alloc (.cells A 38)).alloc (.cells ansZ 35)):=hb1.trans ((Go.Joins.below_alloc1 _ _).mono hb1.size)
 have hr1:=(row_new w 38 A).alloc (.cells ansZ 35)
 have hr2:=row_new (w.alloc (.cells A 38)) 35 ansZ
 rw[size_alloc1] at hr2
 have d0:((w.alloc (.cells A 38)).alloc (.cells ansZ 35)).cell? ⟨w.heap.size,0,none⟩=some (.int .i64 num):=by rw[hr1.cell,ha]
 have l2:=ld_callR hr1 hA
 have HR:Hid (Row ((w.alloc (.cells A 38)).alloc (.cells #[.int .i64 0,.int .i64 0,.int .i64 0,.slice none 0 0,.slice none 0 0,.int .i64 0,.int .i64 0,.int .i64 0,.int .i64 0,.int .i64 0,.int .i64 0] 35)) (w.heap.size+1) 35 ansZ):=Lib.hid hr2
 have HB:=Lib.hid hal
 have HC:=Lib.hid (hs _ (h0.trans (hal.mono h0.size)))
 have HOK:=Lib.hid ok
 have H0:=Lib.hid h0
 have HLT:=Lib.hid hr2.lt
 clear hal hr1 hr2 hA hs ok h0 ha hb1
 have hz:ansZ=#[.int .i64 0,.int .i64 0,.int .i64 0,.slice none 0 0,.slice none 0 0,.int .i64 0,.int .i64 0,.int .i64 0,.int .i64 0,.int .i64 0,.int .i64 0]:=rfl
 rw[hz] at d0 l2 HB HC HLT
 subst hn
 all_goals
  go_enter Tryz.func18,Tryz.ntmps18
  go_upto_region 1 with fail
  generalize (w.alloc (.cells A 38)).alloc (.cells #[.int .i64 0,.int .i64 0,.int .i64 0,.slice none 0 0,.slice none 0 0,.int .i64 0,.int .i64 0,.int .i64 0,.int .i64 0,.int .i64 0,.int .i64 0] 35)=w1 at *
  go_wp2_with (go_at_call 38;refine HC.out.mono ?_;rintro e2 w2 ⟨X,rfl,hX,hone,hu,ho⟩;have hr:=ans_row H0.out HR.out (Nat.le_succ _) hu;have hst:=ans_st hr hX hone;have HLD:=Lib.hid (ans_ldV hr hX);have HP:=Lib.hid (HOK.out.put (C:=X) H0.out HB.out hu ho (Nat.le_succ _) HLT.out);have HX:=Lib.hid (And.intro hX hone);clear hr hX hone hu ho;generalize w2.setRow (w.heap.size+1) X=w3 at *)
  exact bodyPost_ret (v:=.agg X) (by rw[results_cell1 rfl];simp[asAddr,Result.andThen,HLD.out]) rfl ⟨X,rfl,HX.out.1,HX.out.2,HP.out.1,HP.out.2⟩
theorem named25_is (h:KF w0 k s fc x)(hd:DOk x)(ht:Told x)(hna:x.na≤1000)(hA:A.size=7)(ha:A[0]?=some (.int .i64 25)) :
  Spec w0 (KOutS w0.heap.size k fc s.tag x.bs (fun s' x' wc=>s'=s∧∃l l',SyncT x 0 x' wc l l'∧∀j,x'.bs j→x.bs j∨w0.heap.size≤j)) 38 #[.pointer (some ⟨k.K,0,none⟩),.int .i64 p,.agg A]:=by
 intro w h0
 have hb1:=Go.Joins.below_alloc1 w (.cells A 38)
 have hal:Below w.heap.size w ((w.alloc (.cells A 38)).alloc (.cells ansZ 35)):=hb1.trans ((Go.Joins.below_alloc1 _ _).mono hb1.size)
 have hr1:=(row_new w 38 A).alloc (.cells ansZ 35)
 have hr2:=row_new (w.alloc (.cells A 38)) 35 ansZ
 rw[size_alloc1] at hr2
 have d0:((w.alloc (.cells A 38)).alloc (.cells ansZ 35)).cell? ⟨w.heap.size,0,none⟩=some (.int .i64 25):=by rw[hr1.cell,ha]
 have l2:=ld_callR hr1 hA
 have HCH:=Lib.hid (syncK_is ((h.keep h0).keep hal) hd ht hna)
 have q2:=((h.keep h0).keep hal).fsp
 have HR:Hid (Row ((w.alloc (.cells A 38)).alloc (.cells #[.int .i64 0,.int .i64 0,.int .i64 0,.slice none 0 0,.slice none 0 0,.int .i64 0,.int .i64 0,.int .i64 0,.int .i64 0,.int .i64 0,.int .i64 0] 35)) (w.heap.size+1) 35 ansZ):=Lib.hid hr2
 have HB:=Lib.hid hal
 have H0:=Lib.hid h0
 have HH:=Lib.hid h
 have HLT:=Lib.hid hr2.lt
 clear hal hr1 hr2 hA h0 ha hb1 h hd ht hna
 have hz:ansZ=#[.int .i64 0,.int .i64 0,.int .i64 0,.slice none 0 0,.slice none 0 0,.int .i64 0,.int .i64 0,.int .i64 0,.int .i64 0,.int .i64 0,.int .i64 0]:=rfl
 rw[hz] at d0 l2 HB HCH HLT q2
 go_enter Tryz.func38,Tryz.ntmps38
 go_upto_region 1 with fail
 generalize (w.alloc (.cells A 38)).alloc (.cells #[.int .i64 0,.int .i64 0,.int .i64 0,.slice none 0 0,.slice none 0 0,.int .i64 0,.int .i64 0,.int .i64 0,.int .i64 0,.int .i64 0,.int .i64 0] 35)=w1 at *
 obtain⟨hX,hone⟩:=ansN3' 0 0 0
 go_wp2_with (first|(go_at_call 24;(with_reducible refine HCH.out.mono ?_);rintro e2 w2 ⟨rfl,⟨x',wc,hk,hsy,hhel,hbs⟩,hu⟩;have HK2:=Lib.hid (And.intro hk (And.intro hsy (And.intro hhel hbs)));have HU2:=Lib.hid hu;clear hk hsy hhel hbs hu)|(go_at_call 14;(with_reducible refine(fail_is _ _).mono ?_);rintro e3 w3 ⟨rfl,hb3⟩;have hr3:=(HR.out.upd HU2.out (fun e=>by have h1:=HH.out.fs.lt _ e;have h2:=H0.out.size;omega)).keep hb3;have hst:=ans_st hr3 hX hone;have HLD:=Lib.hid (ans_ldV hr3 hX);have HB3:=Lib.hid hb3;clear hb3 hr3))
 have hu7:Upd (fun i=>i=w.heap.size+1) w3 (w3.setRow (w.heap.size+1) (ansV 0 0 0 (.slice none 0 0))):=Upd.setRow w3 _ rfl
 have HFIN:Hid (KF (w3.setRow (w.heap.size+1) (ansV 0 0 0 (.slice none 0 0))) k s fc x'∧Upd (fun i=>x.bs i∨w.heap.size≤i) w (w3.setRow (w.heap.size+1) (ansV 0 0 0 (.slice none 0 0)))∧HelW w.heap.size (w3.setRow (w.heap.size+1) (ansV 0 0 0 (.slice none 0 0))) s x' wc):=Lib.hid (by
    have z0:=H0.out.size
    have z1:=HB.out.size
    have z2:=HU2.out.size
    have z3:=HB3.out.size
    have hlt:=HLT.out
    refine⟨(HK2.out.1.keep HB3.out).upd hu7 (fun j hj e=>?_) (fun j hj e=>?_),(((Upd.below HB.out).trans (HU2.out.mono fun i _ e=>.inl e)).trans (Upd.below HB3.out)).trans (hu7.mono fun i _ e=>.inr (by omega)),((HK2.out.2.2.1.keep HB3.out).upd hu7 (fun j hj e=>by have e:j=w.heap.size+1:=e;omega)).base z1⟩
    · have:=HH.out.kt.lt hj;omega
    · rcases HK2.out.2.2.2 j hj with e2|e2
      · have:=HH.out.fs.lt j e2;omega
      · omega)
 have HBS:Hid (∀j,x'.bs j→x.bs j∨w.heap.size≤j):=Lib.hid fun j e=>(HK2.out.2.2.2 j e).imp_right fun e=>by have:=HB.out.size;omega
 clear hu7 hst HB3
 generalize hZ:ansV 0 0 0 (.slice none 0 0)=Z at HLD HFIN hX hone ⊢
 have HZ:=Lib.hid hZ
 clear hZ
 exact bodyPost_ret (v:=.agg Z) (by rw[results_cell1 rfl];simp[asAddr,Result.andThen,HLD.out]) rfl ⟨Z,rfl,hX,hone,HFIN.out.2.1.mono (fun i hi e=>by
    rcases e with e|e
    · exact HH.out.fs.lt _ e
    · omega),s,x',wc,HFIN.out.1,fun i e=>.inl e,HBS.out,by rw[HZ.out],HFIN.out.2.2,(by
    obtain⟨l,l',hs⟩:=HK2.out.2.1
    exact⟨rfl,l,l',hs,fun j e=>(HBS.out j e).imp_right fun e=>by have:=H0.out.size;omega⟩),HFIN.out.2.1.mono fun i _ e=>.inr e⟩
end
section
variable {w0 w w1 w':World} {k:KC} {s:KSt} {fc:FC} {x:FM} {l:List (Nat×Array Value)} {p:Nat} {A:Array Value}
theorem ED.askS {T:KSt→FM→List WR→Prop}(h:ED w0 w k s fc x l)(haw:Awake s p)(hA:A.size=7)(hs:OutOk w (KOutS w.heap.size k fc s.tag x.bs T)→Spec w (KOutS w.heap.size k fc s.tag x.bs T) 18 #[.pointer (some ⟨k.K,0,none⟩),.int .i64 p,.agg A]) :
  Calls Tryz.prog 7 #[.pointer (some ⟨k.K,0,none⟩),.int .i64 p,.agg A] w fun e2 w'=>∃s' x' wc,e2=.returned (.agg (ansV 0 0 0 (.slice none 0 0)))∧T s' x' wc∧HelW w.heap.size w' s' x' wc∧ED w0 (w'.alloc (.cells (ansV 0 0 0 (.slice none 0 0)) 35)) k s' fc x' ((w'.heap.size,ansV 0 0 0 (.slice none 0 0))::l)∧FarT s.tag w.heap.size s'.tag∧(∀j,x'.bs j→x.bs j∨w.heap.size≤j)∧Upd (fun j=>s.tag j≠0∨x.bs j∨w.heap.size≤j) w w':=by
 have ok:=koutS_ok (k:=k) (fc:=fc) (w0:=w) (tag0:=s.tag) (bs0:=x.bs) h.kf.kt.tz h.kf.fs.lt T
 refine(askP_is ok (Below.refl _ _) h.kf.kt haw hA (hs ok)).mono ?_
 rintro e2 w' ⟨X,rfl,hX,hone,hu,s',x',wc,hk,hf,hx,rfl,hh,hT,hU⟩
 obtain⟨s2,x2,e,a,b,d,dl,eX,⟨rfl,rfl⟩,hO,he,-,-,-,-⟩:=h.asked (T:=fun s2 x2 e a b l=>s2=s'∧x2=x') ⟨s',x',0,0,0,.slice none 0 0,[],hk,hf,hx,rfl,OB.nil _ _,fun j e=>(by cases e),⟨rfl,rfl⟩,hU⟩
 exact⟨s2,x2,wc,rfl,hT,hh,he,hf,hx,hU⟩
end
end Go.Proofs.YtfkepfncgdlgoaaGreatDoor
