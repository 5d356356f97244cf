/- The file system's state, and that of a call that changes it. No walk here. The walks of fs: clone of nodes, begin, node, set. -/
import Derived.Test.YtfkepfncgdlgoaaGreatDoorFsC
import Derived.Deep.RegionHeld3
namespace Go.Proofs.YtfkepfncgdlgoaaGreatDoor
open Go.RowKit Go.Maps
set_option linter.unusedVariables false
set_option linter.unusedSimpArgs false
set_option maxRecDepth 100000
set_option maxHeartbeats 2000000
def encH:Option Nat→Value
 | none=>.int .i64 0
 | some n=>.int .i64 ((n:Int)+1)
def datH:Option Nat→DataW Unit
 | none=>.nil
 | some n=>.lit (.int .i64 n)
def cH:MCode Nat where
 enc:=encH
 dat:=datH
 d0:=rfl
 ei:=fun x y h=>by cases x <;> cases y <;> simp[encH] at h ⊢ <;> omega
 di:=fun x y h=>by cases x <;> cases y <;> simp[datH] at h ⊢;omega
theorem zeroH (w:World):(zeroValue 3).run Tryz.prog w=.ok (encH none) w:=by kernel_rfl
structure FC where
 F:Nat
 D:Nat
 L:Nat
 hb:Nat
 sb:Nat
 nb:Nat
structure FM where
 G:Nat→Nat
 N:Nat
 cap:Nat
 nd:Nat→Nd
 a:Nat
 na:Nat
 td:Int→Option SL
 tb:Int→List Int
 nh:Nat
 held:Int→Option Nat
 sq:Int
 wv:Value
 wm:Nat
 s:List Int
 f:List Int
 bs:Nat→Prop
 wx:List Value
def fDk (c:FC) (x:FM) (j:Nat):Prop:=j=c.D∨j=c.sb∨j=c.nb∨x.wv.ownBlock=some j
def fMut (c:FC) (x:FM) (j:Nat):Prop:=j=c.F∨j=x.a∨j=c.hb∨j=c.L∨fDk c x j
def fsR (c:FC) (x:FM):Array Value:=#[.pointer (some ⟨c.D,0,none⟩),.pointer (some ⟨c.L,0,none⟩)]++forA x.G++#[.slice none 0 0,.slice (some ⟨x.N,0,none⟩) 32 x.cap,.map (some x.a),.map (some c.hb)]
theorem fsR_size (c:FC) (x:FM):(fsR c x).size=198:=by simp[fsR,forA_size]
theorem fsR_lo (c:FC) (x:FM) {j:Nat}(h:j<2):(fsR c x)[j]?=(#[Value.pointer (some ⟨c.D,0,none⟩),.pointer (some ⟨c.L,0,none⟩)]:Array Value)[j]?:=by
 unfold fsR
 rw[Array.append_assoc,Array.getElem?_append_left (by simpa using h)]
theorem fsR_hi (c:FC) (x:FM) (j:Nat):(fsR c x)[194+j]?=(#[Value.slice none 0 0,.slice (some ⟨x.N,0,none⟩) 32 x.cap,.map (some x.a),.map (some c.hb)]:Array Value)[j]?:=by
 unfold fsR
 rw[Array.getElem?_append_right (by simp[forA_size])]
 simp[forA_size]
theorem fsR_for (c:FC) (x:FM):(fsR c x).extract 2 (2+192)=forA x.G:=by
 apply Array.ext_getElem?
 intro j
 rw[Array.getElem?_extract]
 by_cases hj:j<192
 ·rw[if_pos (by rw[fsR_size];omega)]
  unfold fsR
  rw[Array.getElem?_append_left (by simp[forA_size];omega),Array.getElem?_append_right (by simp)]
  simp
 ·rw[if_neg (by omega),Array.getElem?_eq_none (by rw[forA_size];omega)]
structure Im (bad:Nat→Prop) (w:World) (v:Value) (l:List Int):Prop where
 a:At (Value.int .u8) 0 w v l
 n:∀j,v.ownBlock=some j→¬bad j
structure Ip (bad:Nat→Prop) (w:World) (x:Nd):Prop where
 a:At (Value.int .i64) 0 w x.pv x.ps
 n:∀j,x.pv.ownBlock=some j→¬bad j
 lt:∀j,x.pv.ownBlock=some j→j<w.heap.size
structure FSt (w:World) (c:FC) (x:FM):Prop where
 row:Row w c.F 137 (fsR c x)
 lone:Lone1 x.G
 fr:FR x.G
 lg:Row w c.L 230 #[.pointer (some ⟨c.D,0,none⟩),.int .i64 5,.int .i64 32,.int .u32 x.sq]
 nb:∃C,NB w x.N C x.nd
 cp:32≤x.cap∧x.cap≤maxLen
 ps:∀i,i<32→Ip (fMut c x) w (x.nd i)∧∀j,(x.nd i).pv.ownBlock=some j→x.bs j
 td:CMap cS w x.a x.na x.td
 tb:∀p s,x.td p=some s→Im (fMut c x) w (encS (some s)) (x.tb p)∧(x.tb p).length=64∧x.bs s.1
 hd:CMap cH w c.hb x.nh x.held
 dk:Dk w c.D c.sb c.nb x.wv x.wm 256 x.s x.f
 nm:¬fMut c x x.N
 n1:c.F≠x.a∧c.F≠c.hb∧c.F≠c.L∧x.a≠c.hb∧x.a≠c.L∧c.hb≠c.L
 n2:¬fDk c x c.F∧¬fDk c x x.a∧¬fDk c x c.hb∧¬fDk c x c.L
 bm:∀j,fMut c x j→x.bs j
 bn:x.bs x.N
 lt:∀j,x.bs j→j<w.heap.size
 wo:w.ownsRow 0 107 2 x.wv x.wm x.wx
section
variable {w w':World} {c:FC} {x:FM}
theorem At.upd8 {α:Type} {f:α→Value} {d:α} {S:Nat→Prop} {v:Value} {l:List α}(h:At f d w v l)(hu:Upd S w w')(hn:∀j,v.ownBlock=some j→¬S j):At f d w' v l:=by
 obtain⟨a,cap,rfl,h1,h2,h3⟩:=h
 refine⟨a,cap,rfl,h1,h2,?_⟩
 rcases h3 with h3|⟨b,o,rfl,hlt,hc⟩
 ·exact .inl h3
 ·exact .inr ⟨b,o,rfl,Nat.lt_of_lt_of_le hlt hu.size,fun i hi=>(hu.cell hlt (hn b rfl)).trans (hc i hi)⟩
theorem Im.upd {bad S:Nat→Prop} {v:Value} {l:List Int}(h:Im bad w v l)(hu:Upd S w w')(hn:∀j,v.ownBlock=some j→¬S j):Im bad w' v l:=⟨h.a.upd8 hu hn,h.n⟩
theorem Ip.upd {bad S:Nat→Prop} {v:Nd}(h:Ip bad w v)(hu:Upd S w w')(hn:∀j,v.pv.ownBlock=some j→¬S j):Ip bad w' v:=⟨h.a.upd8 hu hn,h.n,fun j e=>Nat.lt_of_lt_of_le (h.lt j e) hu.size⟩
theorem fDk.mut {j:Nat}(h:fDk c x j):fMut c x j:=.inr (.inr (.inr (.inr h)))
theorem Dk.upd8 {S:Nat→Prop} {D sb nb m S0:Nat} {wv:Value} {s f:List Int}(h:Dk w D sb nb wv m S0 s f)(hu:Upd S w w')(h1:¬S D)(h2:¬S sb)(h3:¬S nb)(h4:∀j,wv.ownBlock=some j→¬S j):Dk w' D sb nb wv m S0 s f:=by
 have k:∀ {o v},w.cell? ⟨D,o,none⟩=some v→w'.cell? ⟨D,o,none⟩=some v:=fun hc=>(hu.cell h.lt h1).trans hc
 obtain⟨xs,ho⟩:=h.own
 exact⟨k h.c0,k h.c1,k h.c2,k h.c3,fun j=>(hu.frozen h.lt h1).trans (h.fz j),Nat.lt_of_lt_of_le h.lt hu.size,h.sB.upd hu h2,h.nB.upd hu h3,h.ls,h.lf,⟨xs,hu.owns ho h4⟩,h.n1,h.n2,h.n3,h.o0,h.o1,h.o2,h.S0,h.S1⟩
theorem FSt.upd {S:Nat→Prop}(h:FSt w c x)(hu:Upd S w w')(hn:∀j,x.bs j→¬S j):FSt w' c x:=by
 have m:∀ {j},fMut c x j→¬S j:=fun e=>hn _ (h.bm _ e)
 obtain⟨C,hC⟩:=h.nb
 exact⟨h.row.upd hu (m (.inl rfl)),h.lone,h.fr,h.lg.upd hu (m (.inr (.inr (.inr (.inl rfl))))),⟨C,hC.upd hu (hn _ h.bn)⟩,h.cp,fun i hi=>⟨(h.ps i hi).1.upd hu (fun j e=>hn j ((h.ps i hi).2 j e)),(h.ps i hi).2⟩,h.td.upd hu (m (.inr (.inl rfl))),fun p s e=>⟨(h.tb p s e).1.upd hu (fun j q=>hn j (by
    obtain⟨b,o,n,k⟩:=s
    simp only[encS,Value.ownBlock,Option.some.injEq] at q
    rw[← q]
    exact(h.tb p _ e).2.2)),(h.tb p s e).2⟩,h.hd.upd hu (m (.inr (.inr (.inl rfl)))),h.dk.upd8 hu (m (fDk.mut (.inl rfl))) (m (fDk.mut (.inr (.inl rfl)))) (m (fDk.mut (.inr (.inr (.inl rfl))))) (fun j e=>m (fDk.mut (.inr (.inr (.inr e))))),h.nm,h.n1,h.n2,h.bm,h.bn,fun j e=>Nat.lt_of_lt_of_le (h.lt j e) hu.size,hu.owns h.wo (fun g e=>m (.inr (.inr (.inr (.inr (.inr (.inr (.inr e)))))))) ⟩
theorem FSt.keep (h:FSt w c x)(hb:Below w.heap.size w w'):FSt w' c x:=h.upd (S:=fun _=>False) (Upd.below hb) (fun _ _ e=>e)
theorem FSt.below {w0:World}(h:FSt w0 c x)(hb:Below w0.heap.size w0 w'):FSt w' c x:=h.keep hb
theorem FSt.c0 (h:FSt w c x):w.cell? ⟨c.F,0,none⟩=some (.pointer (some ⟨c.D,0,none⟩)):=by rw[h.row.cell,fsR_lo c x (by decide)];rfl
theorem FSt.c1 (h:FSt w c x):w.cell? ⟨c.F,1,none⟩=some (.pointer (some ⟨c.L,0,none⟩)):=by rw[h.row.cell,fsR_lo c x (by decide)];rfl
theorem FSt.c3 (h:FSt w c x):w.cell? ⟨c.F,194,none⟩=some (.slice none 0 0):=by rw[h.row.cell,fsR_hi c x 0];rfl
theorem FSt.c4 (h:FSt w c x):w.cell? ⟨c.F,195,none⟩=some (.slice (some ⟨x.N,0,none⟩) 32 x.cap):=by rw[h.row.cell,fsR_hi c x 1];rfl
theorem FSt.c5 (h:FSt w c x):w.cell? ⟨c.F,196,none⟩=some (.map (some x.a)):=by rw[h.row.cell,fsR_hi c x 2];rfl
theorem FSt.c6 (h:FSt w c x):w.cell? ⟨c.F,197,none⟩=some (.map (some c.hb)):=by rw[h.row.cell,fsR_hi c x 3];rfl
theorem FSt.ldF (h:FSt w c x):(ldR 115 (.pointer (some ⟨c.F,2,none⟩))).run Tryz.prog w=.ok (.agg (forA x.G)) w:=by
 have:=h.row.ld (U:=115) (o:=2) (n:=192) (by rw[fsR_size];decide) Tryz.underlying115 rfl (by kernel_rfl)
 rw[fsR_for] at this
 exact this
end
structure TM where
 G:Nat→Nat
 N:Nat
 cap:Nat
 nd:Nat→Nd
 db:Nat
 nb:Nat
 dy:Int→Option Unit
 pb:Nat
 np:Nat
 pt:Int→Option SL
 pby:Int→List Int
 gv:Value
 gl:List Int
def tMut (t:Nat) (y:TM) (j:Nat):Prop:=j=t∨j=y.N∨j=y.db∨j=y.pb∨y.gv.ownBlock=some j
def txR (c:FC) (y:TM):Array Value:=#[.pointer (some ⟨c.F,0,none⟩)]++forA y.G++#[.slice none 0 0,.slice (some ⟨y.N,0,none⟩) 32 y.cap,.map (some y.db),.map (some y.pb),y.gv,.bool false,.int .i64 256]
theorem txR_size (c:FC) (y:TM):(txR c y).size=200:=by simp[txR,forA_size]
theorem txR_lo (c:FC) (y:TM):(txR c y)[0]?=some (.pointer (some ⟨c.F,0,none⟩)):=by
 unfold txR
 rw[Array.append_assoc,Array.getElem?_append_left (by simp)]
 rfl
theorem txR_hi (c:FC) (y:TM) (j:Nat):(txR c y)[193+j]?=(#[Value.slice none 0 0,.slice (some ⟨y.N,0,none⟩) 32 y.cap,.map (some y.db),.map (some y.pb),y.gv,.bool false,.int .i64 256]:Array Value)[j]?:=by
 unfold txR
 rw[Array.getElem?_append_right (by simp[forA_size])]
 simp[forA_size]
theorem txR_G (c:FC) (y:TM) {j:Nat}(h:j<192):(txR c y)[1+j]?=some (fV j (y.G j)):=by
 unfold txR
 rw[Array.getElem?_append_left (by simp[forA_size];omega),Array.getElem?_append_right (by simp)]
 simp only[List.size_toArray,List.length_cons,List.length_nil,Nat.zero_add,Nat.add_sub_cancel_left]
 rw[forA_get _ h]
theorem txR_for (c:FC) (y:TM):(txR c y).extract 1 (1+192)=forA y.G:=by
 apply Array.ext_getElem?
 intro j
 rw[Array.getElem?_extract]
 by_cases hj:j<192
 ·rw[if_pos (by rw[txR_size];omega),txR_G c y hj,forA_get _ hj]
 ·rw[if_neg (by omega),Array.getElem?_eq_none (by rw[forA_size];omega)]
structure TX (w0 w:World) (c:FC) (x:FM) (t:Nat) (y:TM):Prop where
 fs:FSt w0 c x
 bl:Below w0.heap.size w0 w
 row:Row w t 243 (txR c y)
 lone:Lone1 y.G
 fr:FR y.G
 nb:∃C,NB w y.N C y.nd
 cp:32≤y.cap∧y.cap≤maxLen
 ps:∀i,i<32→Ip (fun j=>fMut c x j∨tMut t y j∨(¬x.bs j∧j<w0.heap.size)) w (y.nd i)
 db:CMap cT w y.db y.nb y.dy
 pb:CMap cS w y.pb y.np y.pt
 pv:∀p s,y.pt p=some s→Im (fun j=>fMut c x j∨tMut t y j) w (encS (some s)) (y.pby p)∧(y.pby p).length=64∧w0.heap.size≤s.1
 gn:w.ownsRow w0.heap.size 3 1 y.gv y.gl.length (y.gl.map fun p=>.int .i64 p)
 b0:w0.heap.size≤t∧w0.heap.size≤y.N∧w0.heap.size≤y.db∧w0.heap.size≤y.pb
 n1:t≠y.N∧t≠y.db∧t≠y.pb∧y.N≠y.db∧y.N≠y.pb∧y.db≠y.pb
 n2:∀j,y.gv.ownBlock=some j→j≠t∧j≠y.N∧j≠y.db∧j≠y.pb
section
variable {w0 w w':World} {c:FC} {x:FM} {t:Nat} {y:TM}
theorem TX.st (h:TX w0 w c x t y):FSt w c x:=h.fs.below h.bl
theorem TX.mlt (h:TX w0 w c x t y) {j:Nat}(hj:tMut t y j):w0.heap.size≤j∧j<w.heap.size:=by
 rcases hj with rfl|rfl|rfl|rfl|e
 ·exact⟨h.b0.1,h.row.lt⟩
 ·obtain⟨C,hC⟩:=h.nb
  exact⟨h.b0.2.1,hC.row.lt⟩
 ·exact⟨h.b0.2.2.1,h.db.lt⟩
 ·exact⟨h.b0.2.2.2,h.pb.lt⟩
 ·exact h.gn.lt _ e
theorem At.blt {α:Type} {f:α→Value} {d:α} {v:Value} {l:List α}(h:At f d w v l) {b o n k:Nat}(hv:v=.slice (some ⟨b,o,none⟩) n k)(h0:l≠[]):b<w.heap.size:=by
 obtain⟨a,cap,rfl,h1,h2,h3⟩:=h
 rcases h3 with h3|⟨b',o',rfl,hlt,hc⟩
 ·exact absurd h3 h0
 ·injection hv with hv
  injection hv with hv
  injection hv with hv
  omega
theorem TX.upd {S:Nat→Prop}(h:TX w0 w c x t y)(hu:Upd S w w')(hn:∀j,j<w.heap.size→¬S j):TX w0 w' c x t y:=by
 have hb:Below w.heap.size w w':=hu.toBelow (Nat.le_refl _) hn
 obtain⟨C,hC⟩:=h.nb
 exact⟨h.fs,h.bl.trans (hb.mono h.bl.size),h.row.keep hb,h.lone,h.fr,⟨C,hC.keep hb⟩,h.cp,fun i hi=>(h.ps i hi).upd (S:=fun _=>False) (Upd.below hb) (fun _ _ e=>e),h.db.keep hb,h.pb.keep hb,fun p s e=>⟨⟨(h.pv p s e).1.a.keep hb,(h.pv p s e).1.n⟩,(h.pv p s e).2⟩,owns_keep h.gn hb,h.b0,h.n1,h.n2⟩
theorem TX.keep (h:TX w0 w c x t y)(hb:Below w.heap.size w w'):TX w0 w' c x t y:=h.upd (S:=fun _=>False) (Upd.below hb) (fun _ _ e=>e)
theorem TX.c0 (h:TX w0 w c x t y):w.cell? ⟨t,0,none⟩=some (.pointer (some ⟨c.F,0,none⟩)):=by rw[h.row.cell,txR_lo]
theorem TX.c2 (h:TX w0 w c x t y):w.cell? ⟨t,193,none⟩=some (.slice none 0 0):=by rw[h.row.cell,txR_hi c y 0];rfl
theorem TX.c3 (h:TX w0 w c x t y):w.cell? ⟨t,194,none⟩=some (.slice (some ⟨y.N,0,none⟩) 32 y.cap):=by rw[h.row.cell,txR_hi c y 1];rfl
theorem TX.c4 (h:TX w0 w c x t y):w.cell? ⟨t,195,none⟩=some (.map (some y.db)):=by rw[h.row.cell,txR_hi c y 2];rfl
theorem TX.c5 (h:TX w0 w c x t y):w.cell? ⟨t,196,none⟩=some (.map (some y.pb)):=by rw[h.row.cell,txR_hi c y 3];rfl
theorem TX.c6 (h:TX w0 w c x t y):w.cell? ⟨t,197,none⟩=some y.gv:=by rw[h.row.cell,txR_hi c y 4];rfl
theorem TX.c7 (h:TX w0 w c x t y):w.cell? ⟨t,198,none⟩=some (.bool false):=by rw[h.row.cell,txR_hi c y 5];rfl
theorem TX.ldF (h:TX w0 w c x t y):(ldR 115 (.pointer (some ⟨t,1,none⟩))).run Tryz.prog w=.ok (.agg (forA y.G)) w:=by
 have:=h.row.ld (U:=115) (o:=1) (n:=192) (by rw[txR_size];decide) Tryz.underlying115 rfl (by kernel_rfl)
 rw[txR_for] at this
 exact this
theorem TX.tb (h:TX w0 w c x t y) {S:Nat→Prop}(hu:Upd S w w')(hS:∀j,S j→tMut t y j):Below w0.heap.size w0 w'∧(∀i,i<32→Ip (fun j=>fMut c x j∨tMut t y j∨(¬x.bs j∧j<w0.heap.size)) w' (y.nd i))∧(∀p s,y.pt p=some s→Im (fun j=>fMut c x j∨tMut t y j) w' (encS (some s)) (y.pby p)∧(y.pby p).length=64∧w0.heap.size≤s.1):=
 ⟨h.bl.trans (hu.toBelow h.bl.size (fun j hj e=>by have:=(h.mlt (hS j e)).1;omega)),fun i hi=>(h.ps i hi).upd hu (fun j e q=>(h.ps i hi).n j e (.inr (.inl (hS j q)))),fun p s e=>⟨(h.pv p s e).1.upd hu (fun j q k=>(h.pv p s e).1.n j q (.inr (hS j k))),(h.pv p s e).2⟩⟩
theorem TX.node (h:TX w0 w c x t y) {C:Array Value}(hC:NB w y.N C y.nd) {i:Nat}(hi:i<32) {n:Nd}(hn:Ip (fun j=>fMut c x j∨tMut t y j∨(¬x.bs j∧j<w0.heap.size)) w n):TX w0 (w.setRow y.N (putA C (i*8) (ndA n).toList)) c x t { y with nd:=ups1 y.nd i n }:=by
 have h1:n.pv.oneCell'=true:=by obtain⟨a,cap,e,_⟩:=hn.a;rw[e];rfl
 have hu:Upd (fun j=>j=y.N) w (w.setRow y.N (putA C (i*8) (ndA n).toList)):=Upd.setRow w _ rfl
 obtain⟨b1,b2,b3⟩:=h.tb hu (fun j e=>.inr (.inl e))
 obtain⟨m1,m2,m3,m4,m5,m6⟩:=h.n1
 exact⟨h.fs,b1,h.row.upd hu m1,h.lone,h.fr,⟨_,(hC.st hi h1).2⟩,h.cp,fun k hk=>by
    by_cases e:k=i
    · subst e
      show Ip _ _ (ups1 y.nd k n k)
      rw[ups1_same]
      exact hn.upd hu (fun j e q=>hn.n j e (.inr (.inl (.inr (.inl q)))))
    · show Ip _ _ (ups1 y.nd i n k)
      rw[ups1_off _ _ e]
      exact b2 k hk,h.db.upd hu (fun e=>m4 e.symm),h.pb.upd hu (fun e=>m5 e.symm),b3,hu.owns h.gn (fun g e q=>(h.n2 g e).2.1 q),h.b0,h.n1,h.n2⟩
theorem TX.dirty (h:TX w0 w c x t y) {n:Nat} {f:Int→Option Unit}(hg:w.grownBy w' (some y.db))(hm:CMap cT w' y.db n f):TX w0 w' c x t { y with dy:=f,nb:=n }:=by
 have hu:Upd (fun j=>j=y.db) w w':=Upd.grown hg rfl
 obtain⟨b1,b2,b3⟩:=h.tb hu (fun j e=>.inr (.inr (.inl e)))
 obtain⟨m1,m2,m3,m4,m5,m6⟩:=h.n1
 obtain⟨C,hC⟩:=h.nb
 exact⟨h.fs,b1,h.row.upd hu m2,h.lone,h.fr,⟨C,hC.upd hu m4⟩,h.cp,b2,hm,h.pb.upd hu (fun e=>m6 e.symm),b3,hu.owns h.gn (fun g e q=>(h.n2 g e).2.2.1 q),h.b0,h.n1,h.n2⟩
theorem TX.puts (h:TX w0 w c x t y) {n:Nat} {f:Int→Option SL} {fb:Int→List Int}(hg:w.grownBy w' (some y.pb))(hm:CMap cS w' y.pb n f)(hf:∀p s,f p=some s→(y.pt p=some s∧fb p=y.pby p)∨(Im (fun j=>fMut c x j∨tMut t y j) w (encS (some s)) (fb p)∧(fb p).length=64∧w0.heap.size≤s.1)):TX w0 w' c x t { y with pt:=f,np:=n,pby:=fb }:=by
 have hu:Upd (fun j=>j=y.pb) w w':=Upd.grown hg rfl
 obtain⟨b1,b2,b3⟩:=h.tb hu (fun j e=>.inr (.inr (.inr (.inl e))))
 obtain⟨m1,m2,m3,m4,m5,m6⟩:=h.n1
 obtain⟨C,hC⟩:=h.nb
 exact⟨h.fs,b1,h.row.upd hu m3,h.lone,h.fr,⟨C,hC.upd hu m5⟩,h.cp,b2,h.db.upd hu m6,hm,fun p s e=>by
    rcases hf p s e with ⟨q1,q2⟩|⟨q1,q2⟩
    · show Im _ _ _ (fb p)∧(fb p).length=64∧_
      rw[q2];exact b3 p s q1
    · exact⟨q1.upd hu (fun j e k=>q1.n j e (.inr (.inr (.inr (.inr (.inl k)))))),q2⟩,hu.owns h.gn (fun g e q=>(h.n2 g e).2.2.2 q),h.b0,h.n1,h.n2⟩
theorem TX.forest (h:TX w0 w c x t y) {G:Nat→Nat} {A:Array Value}(hA:A=txR c { y with G:=G })(hl:Lone1 G)(hf:FR G):TX w0 (w.setRow t A) c x t { y with G:=G }:=by
 have hu:Upd (fun j=>j=t) w (w.setRow t A):=Upd.setRow w _ rfl
 obtain⟨b1,b2,b3⟩:=h.tb hu (fun j e=>.inl e)
 obtain⟨m1,m2,m3,m4,m5,m6⟩:=h.n1
 obtain⟨C,hC⟩:=h.nb
 exact⟨h.fs,b1,by rw[← hA];exact h.row.setRow _,hl,hf,⟨C,hC.upd hu (fun e=>m1 e.symm)⟩,h.cp,b2,h.db.upd hu (fun e=>m2 e.symm),h.pb.upd hu (fun e=>m3 e.symm),b3,hu.owns h.gn (fun g e q=>(h.n2 g e).1 q),h.b0,h.n1,h.n2⟩
theorem TX.far (h:TX w0 w c x t y) {S:Nat→Prop}(hu:Upd S w w')(h0:∀j,S j→w0.heap.size≤j∧¬tMut t y j∧(∀i,i<32→(y.nd i).pv.ownBlock≠some j)∧∀p s,y.pt p=some s→s.1≠j):TX w0 w' c x t y:=by
 have m:∀ {j},tMut t y j→¬S j:=fun e q=>(h0 _ q).2.1 e
 obtain⟨C,hC⟩:=h.nb
 exact⟨h.fs,h.bl.trans (hu.toBelow h.bl.size (fun j hj e=>by have:=(h0 j e).1;omega)),h.row.upd hu (m (.inl rfl)),h.lone,h.fr,⟨C,hC.upd hu (m (.inr (.inl rfl)))⟩,h.cp,fun i hi=>(h.ps i hi).upd hu (fun j e q=>(h0 j q).2.2.1 i hi e),h.db.upd hu (m (.inr (.inr (.inl rfl)))),h.pb.upd hu (m (.inr (.inr (.inr (.inl rfl))))),fun p s e=>⟨(h.pv p s e).1.upd hu (fun j q k=>(h0 j k).2.2.2 p s e (by
    obtain⟨b,o,n,k⟩:=s
    simp only[encS,Value.ownBlock,Option.some.injEq] at q
    exact q)),(h.pv p s e).2⟩,hu.owns h.gn (fun g e=>m (.inr (.inr (.inr (.inr e))))),h.b0,h.n1,h.n2⟩
theorem TX.ltP (h:TX w0 w c x t y) {p:Int} {s:SL} (e:y.pt p=some s):s.1<w.heap.size:=by
 obtain⟨h1,h2,_⟩:=h.pv p s e
 obtain⟨b,o,n,k⟩:=s
 exact h1.a.blt rfl (by intro q;rw[q] at h2;cases h2)
end
theorem below_al {w w':World}(h:Below w.heap.size w w') {o:Obj}:Below w.heap.size w (w'.alloc o):=h.alloc h.size o
theorem ip_one {bad:Nat→Prop} {w:World} {x:Nd}(h:Ip bad w x):x.pv.oneCell'=true:=by
 obtain⟨a,cap,e,_⟩:=h.a
 rw[e];rfl
theorem ndsC_one {nd:Nat→Nd}:∀n,(∀i,i<n→(nd i).pv.oneCell'=true)→∀u∈ndsC nd n,u.oneCell'=true
 | 0,_,u,hu=>by simp[ndsC] at hu
 | n+1,h,u,hu=>by
  rw[ndsC_next,List.mem_append] at hu
  rcases hu with hu|hu
  ·exact ndsC_one n (fun i hi=>h i (by omega)) u hu
  ·have:=ndA_one (nd n) (h n (by omega))
   rw[Array.all_eq_true'] at this
   exact this u (by simpa using hu)
def CloneN (nd:Nat→Nd) (w:World) (e:Ending) (w':World):Prop:=∃g cap C,e=.returned (.slice (some ⟨g,0,none⟩) 32 cap)∧w.heap.size≤g∧32≤cap∧cap≤maxLen∧NB w' g C nd∧Below w.heap.size w w'
theorem cloneN_is {w:World} {N cap:Nat} {C:Array Value} {nd:Nat→Nd}(h:NB w N C nd)(h1:32≤cap)(h2:cap≤maxLen)(hone:∀i,i<32→(nd i).pv.oneCell'=true):Calls Tryz.prog 115 #[.slice (some ⟨N,0,none⟩) 32 cap] w (CloneN nd w):=by
 have q22:∀(w:World) (a:Option Addr) (n c n' c':Nat),(binOp .eql 128 (.slice a n c) (.slice none n' c')).run Tryz.prog w=.ok (.bool a.isNone) w:=fun w a n c n' c'=>Lib.run_eql_slice_nil w _ _ a n c n' c' Tryz.underlying128
 have hcl:∀j u,(ndsC nd 32)[j]?=some u→w.cell? ((⟨N,0,none⟩:Addr).add j)=some u:=fun j u hj=>by
  have hl:=(List.getElem?_eq_some_iff.1 hj).1
  rw[ndsC_len] at hl
  rw[Addr.add_lit,Nat.zero_add,show j=j / 8*8+j % 8 by omega,h.cell (by omega) (by omega),← ndsC_get nd 32 (by omega) (by omega),show j / 8*8+j % 8=j by omega]
  exact hj
 have hlen:(ndsC nd 32).length=32*8:=ndsC_len nd 32
 have ho:=ndsC_one 32 hone
 have HN:=Lib.hid (fun (w':World) (v:Value) (q:w'.ownsRow w.heap.size 120 8 v 32 (ndsC nd 32))=>NB.of_own q)
 have hcm:(cap:Int)≤9223372036854775807:=by unfold maxLen at h2;omega
 unfold CloneN
 generalize hcs:ndsC nd 32=cs at *
 have HC:=Lib.hid hcl
 have HO:=Lib.hid ho
 clear hcl ho hone h hcs h2
 obtain⟨i0,hi,hz0,hz1,hz2⟩:=info_parts infoN
 go_enter Tryz.func115,Tryz.ntmps115
 go_wp2_with (at_builtin;go_loud (refine wpList_append_fresh _ rfl (.tmp 5) (.tmp 6) 128 rfl w.heap.size 120 i0 _ 8 80 Tryz.underlying128 hi hz0 hz1 hz2 rfl (by decide) _ _ _ rfl (World.ownsRow_made w #[] 0 (Nat.le_refl _) (Nat.zero_le _) rfl) ⟨N,0,none⟩ 32 _ cs rfl hlen (fun j u h=>by have:=HC.out j u h;rw[World.cell?_alloc_lt];exact this;exact World.block_lt_of_cell? w _ this) HO.out (by unfold maxLen;omega) (by omega) (by simp) ?_))
 intro v' w1 hown hgrow hfresh
 have hb1:Below w.heap.size w w1:=((Below.refl _ _).alloc (Nat.le_refl _) _).grown hgrow (by simp) (fun g hg=>by simp[Value.ownBlock] at hg;omega)
 clear hgrow hfresh
 obtain⟨g,cap',C',rfl,e1,e2,e3,e4⟩:=HN.out w1 v' (by simpa using hown)
 have HR:=Lib.hid (And.intro e1 (And.intro e2 (And.intro e3 (And.intro e4 hb1))))
 clear hown e1 e2 e3 e4 hb1
 go_wp2_with fail
 go_ret
 exact⟨g,cap',C',rfl,HR.out⟩
theorem bd_tx (ps:Array (Nat×Value)):Instr.build 243 ps=bdR 243 ps:=rfl
def tm0 (x:FM) (g cap db pb:Nat):TM:=⟨x.G,g,cap,x.nd,db,0,fun _=>none,pb,0,fun _=>none,fun _=>[],.slice none 0 0,[]⟩
theorem bd_tx_run (w:World) (c:FC) (x:FM) (g cap db pb:Nat):(bdR 243 #[(0,.pointer (some ⟨c.F,0,none⟩)),(1,.agg (forA x.G)),(2,.slice none 0 0),(3,.slice (some ⟨g,0,none⟩) 32 cap),(4,.map (some db)),(5,.map (some pb)),(8,.int .i64 256)]).run Tryz.prog w=.ok (.agg (txR c (tm0 x g cap db pb))) w:=by kernel_rfl
theorem begin_fin {w wx:World} {c:FC} {x:FM} {g cap db pb:Nat} {C:Array Value}(h:FSt w c x)(hb:Below w.heap.size w wx)(hg:w.heap.size≤g)(h1:32≤cap)(h2:cap≤maxLen)(hN:NB wx g C x.nd)(hd:CMap cT wx db 0 fun _=>none)(hp:CMap cS wx pb 0 fun _=>none) (b1:w.heap.size≤db) (b2:w.heap.size≤pb) (e1:g≠db) (e2:g≠pb) (e3:db≠pb) {t:Nat}(ht:t=wx.heap.size) :
  TX w (wx.alloc (.cells (txR c (tm0 x g cap db pb)) 243)) c x t (tm0 x g cap db pb):=by
 subst ht
 have hal:=Go.Joins.below_alloc1 wx (.cells (txR c (tm0 x g cap db pb)) 243)
 have hb2:=hb.trans (hal.mono hb.size)
 have l1:=hN.row.lt
 have l2:=hd.lt
 have l3:=hp.lt
 have hst:=h.below hb2
 refine⟨h,hb2,row_new _ _ _,h.lone,h.fr,⟨C,hN.keep hal⟩,⟨h1,h2⟩,fun i hi=>?_,hd.keep hal,hp.keep hal,(fun p s e=>by cases e),World.ownsRow_nil _ _ _ _,⟨hb.size,hg,b1,b2⟩,⟨by show wx.heap.size≠g;omega,by show wx.heap.size≠db;omega,by show wx.heap.size≠pb;omega,e1,e2,e3⟩,(fun j e=>by cases e)⟩
 obtain⟨q1,q2⟩:=hst.ps i hi
 refine⟨q1.a,fun j e k=>?_,q1.lt⟩
 have lj:=h.lt j (q2 j e)
 rcases k with k|k|k
 ·exact q1.n j e k
 rotate_left
 ·exact k.1 (q2 j e)
 rcases k with k|k|k|k|k
 ·have:=hb.size;omega
 ·have:j=g:=k;omega
 ·have:j=db:=k;omega
 ·have:j=pb:=k;omega
 ·cases k
theorem cm1 {ι:Type} {cc:MCode ι} (w:World):CMap cc ((w.alloc (.map #[] 0)).alloc (.map #[] 0)) w.heap.size 0 (fun _=>none):=(CMap.made w).keep (Go.Joins.below_alloc1 _ _)
theorem cm2 {ι:Type} {cc:MCode ι} (w:World):CMap cc ((w.alloc (.map #[] 0)).alloc (.map #[] 0)) (w.heap.size+1) 0 (fun _=>none):=by
 have:=CMap.made (c:=cc) (w.alloc (.map #[] 0))
 simpa using this
theorem CMap.drew {ι:Type} {cc:MCode ι} {w:World} {b n:Nat} {f:Int→Option ι}(h:CMap cc w b n f):CMap cc w.drew b n f:=h.keep (Below.refl _ _).drew
attribute [local go_sem ↓] ld_for bd_tx
theorem begin_is {w:World} {c:FC} {x:FM}(h:FSt w c x):Calls Tryz.prog 53 #[.pointer (some ⟨c.F,0,none⟩)] w fun e w'=>∃t g cap db pb,e=.returned (.pointer (some ⟨t,0,none⟩))∧TX w w' c x t (tm0 x g cap db pb):=by
 have hmm:=@run_makeMap Tryz.prog
 obtain⟨C,hC⟩:=h.nb
 have HH:=Lib.hid h
 have HCL:Hid (∀wx,Below w.heap.size w wx→Calls Tryz.prog 115 #[.slice (some ⟨x.N,0,none⟩) 32 x.cap] wx (CloneN x.nd wx)):=Lib.hid fun wx hx=>cloneN_is (hC.keep hx) h.cp.1 h.cp.2 (fun i hi=>ip_one (h.ps i hi).1)
 have hbd:=fun w g cap db pb=>bd_tx_run w c x g cap db pb
 have HS:Hid (∀wx,Below w.heap.size w wx→(ldR 115 (.pointer (some ⟨c.F,2,none⟩))).run Tryz.prog wx=.ok (.agg (forA x.G)) wx∧wx.cell? ⟨c.F,194,none⟩=some (.slice none 0 0)∧wx.cell? ⟨c.F,195,none⟩=some (.slice (some ⟨x.N,0,none⟩) 32 x.cap)):=Lib.hid fun wx hx=>⟨(h.below hx).ldF,(h.below hx).c3,(h.below hx).c4⟩
 have b0:=(Below.refl w.heap.size w).drew
 have b1:Below w.heap.size w (w.alloc (.map #[] 0)).drew:=(Go.Joins.below_alloc1 w _).drew
 have b2:Below w.heap.size w ((w.alloc (.map #[] 0)).alloc (.map #[] 0)).drew:=(((Below.refl _ _).alloc (Nat.le_refl _) _).alloc (by simp) _).drew
 have hS0:=Lib.hid (HS.out _ b0)
 have hS1:=Lib.hid (HS.out _ b1)
 have hS2:=Lib.hid (HS.out _ b2)
 have HB0:=Lib.hid b0
 have HB1:=Lib.hid b1
 have HB2:=Lib.hid b2
 clear h hC b0 b1 b2
 generalize hA:forA x.G=A at *
 have HA:=Lib.hid hA
 clear hA
 go_enter Tryz.func53,Tryz.ntmps53
 go_upto_region 1 with fail
 go_region_held3 (fun wx=>(ldR 115 (.pointer (some ⟨c.F,2,none⟩))).run Tryz.prog wx=.ok (.agg A) wx∧wx.cell? ⟨c.F,194,none⟩=some (.slice none 0 0)∧wx.cell? ⟨c.F,195,none⟩=some (.slice (some ⟨x.N,0,none⟩) 32 x.cap)) (first|assumption|exact hS0.out|exact hS1.out|exact hS2.out|exact HS.out _ HBw.out|exact HS.out _ (below_al HBw.out)|exact HS.out _ (below_al (below_al HBw.out))|exact HS.out _ (below_al (below_al (below_al HBw.out)))|fail)
  (first|(go_at_call 115;(with_reducible refine(HCL.out _ HB0.out).mono ?_);rintro e1 w1 ⟨g,cp,Cg,rfl,hg,hc1,hc2,hN,hb1⟩;have HBw:=Lib.hid (HB0.out.trans (hb1.mono HB0.out.size));have HN:=Lib.hid (And.intro hg (And.intro hc1 (And.intro hc2 (And.intro hN hb1))));clear hg hc1 hc2 hN hb1)|(go_at_call 115;(with_reducible refine(HCL.out _ HB1.out).mono ?_);rintro e1 w1 ⟨g,cp,Cg,rfl,hg,hc1,hc2,hN,hb1⟩;have HBw:=Lib.hid (HB1.out.trans (hb1.mono HB1.out.size));have HN:=Lib.hid (And.intro hg (And.intro hc1 (And.intro hc2 (And.intro hN hb1))));clear hg hc1 hc2 hN hb1)|(go_at_call 115;(with_reducible refine(HCL.out _ HB2.out).mono ?_);rintro e1 w1 ⟨g,cp,Cg,rfl,hg,hc1,hc2,hN,hb1⟩;have HBw:=Lib.hid (HB2.out.trans (hb1.mono HB2.out.size));have HN:=Lib.hid (And.intro hg (And.intro hc1 (And.intro hc2 (And.intro hN hb1))));clear hg hc1 hc2 hN hb1))
 ·go_wp2_with fail
  go_ret
  rw[← HA.out]
  obtain⟨hg,hc1,hc2,hN,hb1⟩:=HN.out
  have hw:=HBw.out
  have z0:=hw.size
  have z1:=hN.row.lt
  have z2:((w.alloc (.map #[] 0)).drew).heap.size=w.heap.size+1:=by show (w.alloc (.map #[] 0)).heap.size=_;simp
  have z3:(((w.alloc (.map #[] 0)).alloc (.map #[] 0)).drew).heap.size=w.heap.size+2:=by show ((w.alloc (.map #[] 0)).alloc (.map #[] 0)).heap.size=_;simp
  have z4:(w.drew).heap.size=w.heap.size:=rfl
  have z5:=hb1.size
  exact⟨_,g,cp,w1.heap.size,w1.heap.size+1,rfl,begin_fin HH.out (below_al (below_al hw)) (by omega) hc1 hc2 (hN.keep (((Below.refl _ _).alloc (Nat.le_refl _) _).alloc (by simp) _)) (cm1 w1) (cm2 w1) (by omega) (by omega) (by omega) (by omega) (by omega) (by simp)⟩
 ·go_wp2_with fail
  go_ret
  rw[← HA.out]
  obtain⟨hg,hc1,hc2,hN,hb1⟩:=HN.out
  have hw:=HBw.out
  have z0:=hw.size
  have z1:=hN.row.lt
  have z2:((w.alloc (.map #[] 0)).drew).heap.size=w.heap.size+1:=by show (w.alloc (.map #[] 0)).heap.size=_;simp
  have z3:(((w.alloc (.map #[] 0)).alloc (.map #[] 0)).drew).heap.size=w.heap.size+2:=by show ((w.alloc (.map #[] 0)).alloc (.map #[] 0)).heap.size=_;simp
  have z4:(w.drew).heap.size=w.heap.size:=rfl
  have z5:=hb1.size
  exact⟨_,g,cp,w1.heap.size+1,w1.heap.size,rfl,begin_fin HH.out (below_al (below_al hw)) (by omega) hc1 hc2 (hN.keep (((Below.refl _ _).alloc (Nat.le_refl _) _).alloc (by simp) _)) (cm2 w1) (cm1 w1) (by omega) (by omega) (by omega) (by omega) (by omega) (by simp)⟩
 ·go_wp2_with fail
  go_ret
  rw[← HA.out]
  obtain⟨hg,hc1,hc2,hN,hb1⟩:=HN.out
  have hw:=HBw.out
  have z0:=hw.size
  have z1:=hN.row.lt
  have z2:((w.alloc (.map #[] 0)).drew).heap.size=w.heap.size+1:=by show (w.alloc (.map #[] 0)).heap.size=_;simp
  have z3:(((w.alloc (.map #[] 0)).alloc (.map #[] 0)).drew).heap.size=w.heap.size+2:=by show ((w.alloc (.map #[] 0)).alloc (.map #[] 0)).heap.size=_;simp
  have z4:(w.drew).heap.size=w.heap.size:=rfl
  have z5:=hb1.size
  exact⟨_,g,cp,w.heap.size,w1.heap.size,rfl,begin_fin HH.out (below_al hw) (by omega) hc1 hc2 (hN.keep (Go.Joins.below_alloc1 _ _)) (((CMap.made w).drew.keep hb1).keep (Go.Joins.below_alloc1 _ _)) (CMap.made w1) (by omega) (by omega) (by omega) (by omega) (by omega) (by simp)⟩
 ·go_wp2_with fail
  go_ret
  rw[← HA.out]
  obtain⟨hg,hc1,hc2,hN,hb1⟩:=HN.out
  have hw:=HBw.out
  have z0:=hw.size
  have z1:=hN.row.lt
  have z2:((w.alloc (.map #[] 0)).drew).heap.size=w.heap.size+1:=by show (w.alloc (.map #[] 0)).heap.size=_;simp
  have z3:(((w.alloc (.map #[] 0)).alloc (.map #[] 0)).drew).heap.size=w.heap.size+2:=by show ((w.alloc (.map #[] 0)).alloc (.map #[] 0)).heap.size=_;simp
  have z4:(w.drew).heap.size=w.heap.size:=rfl
  have z5:=hb1.size
  exact⟨_,g,cp,w.heap.size,w.heap.size+1,rfl,begin_fin HH.out hw (by omega) hc1 hc2 hN ((cm1 w).drew.keep hb1) ((cm2 w).drew.keep hb1) (by omega) (by omega) (by omega) (by omega) (by omega) (by simp)⟩
 ·go_wp2_with fail
  go_ret
  rw[← HA.out]
  obtain⟨hg,hc1,hc2,hN,hb1⟩:=HN.out
  have hw:=HBw.out
  have z0:=hw.size
  have z1:=hN.row.lt
  have z2:((w.alloc (.map #[] 0)).drew).heap.size=w.heap.size+1:=by show (w.alloc (.map #[] 0)).heap.size=_;simp
  have z3:(((w.alloc (.map #[] 0)).alloc (.map #[] 0)).drew).heap.size=w.heap.size+2:=by show ((w.alloc (.map #[] 0)).alloc (.map #[] 0)).heap.size=_;simp
  have z4:(w.drew).heap.size=w.heap.size:=rfl
  have z5:=hb1.size
  exact⟨_,g,cp,w1.heap.size,w.heap.size,rfl,begin_fin HH.out (below_al hw) (by omega) hc1 hc2 (hN.keep (Go.Joins.below_alloc1 _ _)) (CMap.made w1) (((CMap.made w).drew.keep hb1).keep (Go.Joins.below_alloc1 _ _)) (by omega) (by omega) (by omega) (by omega) (by omega) (by simp)⟩
 ·go_wp2_with fail
  go_ret
  rw[← HA.out]
  obtain⟨hg,hc1,hc2,hN,hb1⟩:=HN.out
  have hw:=HBw.out
  have z0:=hw.size
  have z1:=hN.row.lt
  have z2:((w.alloc (.map #[] 0)).drew).heap.size=w.heap.size+1:=by show (w.alloc (.map #[] 0)).heap.size=_;simp
  have z3:(((w.alloc (.map #[] 0)).alloc (.map #[] 0)).drew).heap.size=w.heap.size+2:=by show ((w.alloc (.map #[] 0)).alloc (.map #[] 0)).heap.size=_;simp
  have z4:(w.drew).heap.size=w.heap.size:=rfl
  have z5:=hb1.size
  exact⟨_,g,cp,w.heap.size+1,w.heap.size,rfl,begin_fin HH.out hw (by omega) hc1 hc2 hN ((cm2 w).drew.keep hb1) ((cm1 w).drew.keep hb1) (by omega) (by omega) (by omega) (by omega) (by omega) (by simp)⟩
end Go.Proofs.YtfkepfncgdlgoaaGreatDoor
