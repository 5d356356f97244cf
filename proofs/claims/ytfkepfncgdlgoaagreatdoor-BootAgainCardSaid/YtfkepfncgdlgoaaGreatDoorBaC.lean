/- The walk of lift.Run at requests to different sectors. The walks of package journal: word, read. -/
import Derived.Test.YtfkepfncgdlgoaaGreatDoorLfC
import Derived.Test.YtfkepfncgdlgoaaGreatDoorFmtP
import Derived.Test.YtfkepfncgdlgoaaGreatDoorBaB
import Derived.BigQuiet
namespace Go.Proofs.YtfkepfncgdlgoaaGreatDoor
open Go.RowKit Go.Maps
open Go.RowKit
set_option linter.unusedVariables false
set_option linter.unusedSimpArgs false
set_option maxRecDepth 100000
set_option maxHeartbeats 4000000
def wrAll (f:List Int) (l:List WR):List Int:=l.foldl (fun f y=>putS f y.n y.l) f
theorem wrAll_next (f:List Int) (l:List WR) {i:Nat} {x:WR}(hx:l[i]?=some x):wrAll f (l.take (i+1))=putS (wrAll f (l.take i)) x.n x.l:=by
 unfold wrAll
 rw[List.take_add_one,hx,Option.toList_some,List.foldl_append]
 rfl
theorem wrAll_len:∀(l:List WR) {f:List Int},f.length=256*64→(∀y∈l,y.n<256∧y.l.length=64)→(wrAll f l).length=256*64
 | [],f,hf,_=>hf
 | y::l,f,hf,h=>by
  show (wrAll (putS f y.n y.l) l).length=_
  exact wrAll_len l (putS_len hf (h y (List.mem_cons_self ..)).1 (h y (List.mem_cons_self ..)).2) (fun z hz=>h z (List.mem_cons_of_mem _ hz))
theorem wrAll_off:∀(l:List WR) {f:List Int},f.length=256*64→(∀y∈l,y.n<256∧y.l.length=64)→∀p,p<256→(∀y∈l,y.n≠p)→sect (wrAll f l) p=sect f p
 | [],f,hf,_,p,_,_=>rfl
 | y::l,f,hf,h,p,hp,hn=>by
  show sect (wrAll (putS f y.n y.l) l) p=_
  have hy:=h y (List.mem_cons_self ..)
  rw[wrAll_off l (putS_len hf hy.1 hy.2) (fun z hz=>h z (List.mem_cons_of_mem _ hz)) p hp (fun z hz=>hn z (List.mem_cons_of_mem _ hz)),sect_other hf hy.1 hp hy.2 (fun e=>hn y (List.mem_cons_self ..) e.symm)]
theorem wrAll_on:∀(l:List WR) {f:List Int},f.length=256*64→(∀y∈l,y.n<256∧y.l.length=64)→(l.map fun y=>y.n).Nodup→∀y∈l,sect (wrAll f l) y.n=y.l
 | [],f,hf,_,_,y,hy=>nomatch hy
 | z::l,f,hf,h,hd,y,hy=>by
  show sect (wrAll (putS f z.n z.l) l) y.n=_
  have hz:=h z (List.mem_cons_self ..)
  rw[List.map_cons,List.nodup_cons] at hd
  have h':∀y∈l,y.n<256∧y.l.length=64:=fun y hy=>h y (List.mem_cons_of_mem _ hy)
  rcases List.mem_cons.1 hy with e|e
  ·subst e
   rw[wrAll_off l (putS_len hf hz.1 hz.2) h' y.n hz.1 (fun x hx e=>hd.1 (List.mem_map.2 ⟨x,hx,e⟩)),sect_same hf hz.1 hz.2]
  ·exact wrAll_on l (putS_len hf hz.1 hz.2) h' hd.2 y e
section
variable {w:World} {D sb nb L:Nat} {wv:Value} {s f:List Int} {wc:List WR} {g cap:Nat} {l:List WR}
theorem run_is (hd:DW w D sb nb wv 256 s f wc)(hs:SRq w g cap l)(ho:WrOk l)(hok:WsOk (fun j=>j=g) w l)(h0:l≠[]) {n:Nat}(hn:n=l.length)(hm:wc.length≤1000):Calls Tryz.prog 134 #[.pointer (some ⟨D,0,none⟩),.slice (some ⟨g,0,none⟩) n cap] w fun e w'=>e=.returned (.int .i64 0)∧(∃wv' wc' l',SameW l l'∧DW w' D sb nb wv' 256 s (wrAll f l') (wc++wc')∧(wc'.map fun y=>(y.n,y.l))=(l'.map fun y=>(y.n,y.l))∧(∀y∈wc',∀j,y.v.ownBlock=some j→w.heap.size≤j)∧(∀j,j<w.heap.size→wv'.ownBlock=some j→wv.ownBlock=some j))∧Upd (Dset D sb nb wv) w w':=by
 have hvv:∀y∈l,∃a k,y.v=.slice a 64 k:=fun y hy=>by obtain⟨a,k,e⟩:=ho.v y hy;exact⟨_,_,e⟩
 have hn12:(n:Int)≤12:=by have:=ho.le;omega
 have HS:=Lib.hid hs
 have HP:Hid (∀y∈l,y.n<256):=Lib.hid (fun y hy=>(ho.pos y hy).1)
 have HV:=Lib.hid hvv
 have HN:=Lib.hid hn
 have HD:=Lib.hid hd
 have HM:=Lib.hid hm
 have HL64:Hid (∀x∈l,x.l.length=64):=Lib.hid (fun x hx=>(hok x hx).2.1)
 have HOR:=Lib.hid (fun w' (hb:Below w.heap.size w w')=>order_is (hs.keep hb) ho (hok.keep hb) h0 hn)
 have HNL:=Lib.hid (And.intro ho.nd ho.le)
 have HSZ:Hid (∀w',Below w.heap.size w w'→Calls Tryz.prog 40 #[.pointer (some ⟨D,0,none⟩)] w' fun e w''=>e=.returned (.int .i64 256)∧w''=w'):=Lib.hid (fun w' hb=>(size_is (hd.keep hb).dk).mono (fun e w' h=>⟨h.1,h.2.symm⟩))
 have hcap:n≤cap:=by rw[hn];exact hs.le
 clear hs ho hok h0 hn hvv hd hm
 go_enter Tryz.func134,Tryz.ntmps134
 go_wp2_with fail
 go_loopw [14] (fun iv wr=>∃i:Nat,i≤n∧iv=.int .i64 i∧Hid (Below w.heap.size w wr)) (fun iv _=>n-(intOf iv).toNat)
 case atStart=>exact⟨0,by omega,by simp,Lib.hid (Below.refl _ _)⟩
 case round=>
  obtain⟨i,hi,rfl,HB⟩:=hrel
  by_cases hlt:i<n
  ·have hji:(i:Int)<n:=by omega
   obtain⟨x,hx⟩:∃x,l[i]?=some x:=⟨_,List.getElem?_eq_getElem (by have:=HN.out;omega)⟩
   have hxm:=List.mem_of_getElem? hx
   have hW:=HS.out.keep HB.out
   have kk0:=hW.cell hx (j:=0) (by decide)
   have kk1:=hW.cell hx (j:=1) (by decide)
   have kk2:=hW.cell hx (j:=2) (by decide)
   obtain⟨a,vc,hve⟩:=HV.out x hxm
   have hx256:=HP.out x hxm
   have k0:wr.cell? ⟨g,i*3,none⟩=some (.int .i64 x.n):=kk0
   have k1:wr.cell? ⟨g,i*3+1,none⟩=some (.slice a 64 vc):=by rw[kk1];show some x.v=_;rw[hve]
   have k2:wr.cell? ⟨g,i*3+2,none⟩=some (.bool false):=kk2
   generalize x.n=xn at *
   have t0:decide ((xn:Int)<0)=false:=decide_eq_false (by omega)
   have t1:decide ((256:Int)≤(xn:Int))=false:=decide_eq_false (by omega)
   have t1':¬(256:Int)≤(xn:Int):=by omega
   have HB1:=Lib.hid (HB.out.trans ((Go.Joins.below_alloc1 wr (.cells #[.int .i64 xn,.slice a 64 vc,.bool false] 256)).mono HB.out.size))
   have hr:=row_new wr 256 #[.int .i64 xn,.slice a 64 vc,.bool false]
   have d0:(wr.alloc (.cells #[.int .i64 xn,.slice a 64 vc,.bool false] 256)).cell? ⟨wr.heap.size,0,none⟩=some (.int .i64 xn):=by rw[hr.cell];rfl
   have d2:(wr.alloc (.cells #[.int .i64 xn,.slice a 64 vc,.bool false] 256)).cell? ⟨wr.heap.size,2,none⟩=some (.bool false):=by rw[hr.cell];rfl
   obtain⟨pn,hpn⟩:∃pn,pn=wr.heap.size:=⟨_,rfl⟩
   rw[← hpn] at d0 d2
   clear hx hxm hW kk0 kk1 kk2 hve hr hx256
   go_upto_region 4 with fail
   rw[← hpn]
   clear hpn k0 k1 k2
   generalize wr.alloc (.cells #[.int .i64 xn,.slice a 64 vc,.bool false] 256)=w2 at *
   go_quiet (first|(go_at_call 40;(with_reducible refine Calls.quiet_of_same (HSZ.out _ HB1.out)))|(go_at_call 40;(with_reducible refine Calls.quiet_of_same (HSZ.out _ (below_drewN HB1.out _)))))
   have HB2:=Lib.hid (below_drewN HB1.out nq)
   clear d0 d2 HB1
   generalize w2.drewN nq=w3 at *
   go_wp2_with fail
   go_roundw
   case rel=>exact⟨i+1,by omega,by go_num,HB2⟩
   case measure=>simp[intOf];omega
  ·obtain rfl:i=n:=by omega
   have HOO:=Lib.hid (HOR.out wr HB.out)
   clear HOR HS HV HN
   go_upto_region 10 with (go_at_call 212;refine HOO.out.mono ?_;rintro e3 w3 ⟨g',cap',l',rfl,hs3,hsm,hgs,hat,hb3⟩;have HQ:=Lib.hid (And.intro hs3 (And.intro hsm (And.intro hgs (And.intro hat (HB.out.trans (hb3.mono HB.out.size))))));clear hs3 hsm hgs hat hb3)
   obtain⟨m,hmm⟩:∃m,m=l'.length:=⟨_,rfl⟩
   rw[← hmm]
   have hl3:l'.length=l.length:=by have:=HQ.out.2.1.length_eq;simpa using this
   have hm12:(m:Int)≤12:=by have:=HNL.out.2;omega
   have hmc:m≤cap':=by rw[hmm];exact HQ.out.1.le
   have hinf:∀y∈l',y.n<256∧y.l.length=64:=fun y hy=>by
    have h1:(y.n,y.l)∈l.map fun y=>(y.n,y.l):=HQ.out.2.1.mem_iff.1 (List.mem_map.2 ⟨y,hy,rfl⟩)
    obtain⟨x,hx,e⟩:=List.mem_map.1 h1
    have e1:x.n=y.n:=congrArg Prod.fst e
    have e2:x.l=y.l:=congrArg Prod.snd e
    exact⟨by rw[← e1];exact HP.out x hx,by rw[← e2];exact HL64.out x hx⟩
   have HI:=Lib.hid (And.intro hinf (And.intro hmm hl3))
   have HD3:=Lib.hid (HD.out.keep HQ.out.2.2.2.2)
   clear hmm hl3 hinf HOO HSZ
   go_wp2_with fail
   go_loopw [44] (fun iv wr=>∃(i:Nat) (wv':Value) (wc':List WR),i≤m∧iv=.int .i64 i∧Hid (DW wr D sb nb wv' 256 s (wrAll f (l'.take i)) (wc++wc'))∧Hid ((wc'.map fun y=>(y.n,y.l))=((l'.take i).map fun y=>(y.n,y.l)))∧Hid ((∀y∈wc',∀j,y.v.ownBlock=some j→w.heap.size≤j)∧(∀j,j<w3.heap.size→wv'.ownBlock=some j→wv.ownBlock=some j))∧Hid (Upd (Dset D sb nb wv) w3 wr)) (fun iv _=>m-(intOf iv).toNat)
   case atStart=>exact⟨0,wv,[],by omega,by simp,Lib.hid (by rw[List.append_nil];exact HD3.out),Lib.hid rfl,Lib.hid ⟨fun _ q=>(nomatch q),fun j _ e=>e⟩,Lib.hid (Upd.refl _ _)⟩
   case round=>
    obtain⟨i2,wv',wc',hi2,rfl,HDW,HWC,HWV,HU⟩:=hrel
    by_cases hlt2:i2<m
    ·have hji:(i2:Int)<m:=by omega
     obtain⟨x,hx⟩:∃x,l'[i2]?=some x:=⟨_,List.getElem?_eq_getElem (by have:=HI.out.2.1;omega)⟩
     have hxm:=List.mem_of_getElem? hx
     have hDlt:∀j,Dset D sb nb wv j→j<w.heap.size:=fun j e=>HD.out.lt e
     have hw3:w.heap.size≤w3.heap.size:=HQ.out.2.2.2.2.size
     have hwr0:w.heap.size≤wr.heap.size:=Nat.le_trans hw3 HU.out.size
     have hgs:=HQ.out.2.2.1
     have hB3:w.heap.size≤g':=by
      have:=HB.out.size
      omega
     have hW:=HQ.out.1.upd HU.out (fun e=>by have:=hDlt _ e;omega)
     have kk0:=hW.cell hx (j:=0) (by decide)
     have kk1:=hW.cell hx (j:=1) (by decide)
     have kk2:=hW.cell hx (j:=2) (by decide)
     obtain⟨hx256,hx64⟩:=HI.out.1 x hxm
     obtain⟨hatx,hbx⟩:=HQ.out.2.2.2.1 x hxm
     have hat2:=hatx.updW HU.out (fun j e q=>by have:=hDlt _ q;have:=(hbx j e).1;have:=HB.out.size;omega)
     have hat0:=hat2
     obtain⟨a,vc,hve,-⟩:=hat0
     rw[hx64] at hve
     have k0:wr.cell? ⟨g',i2*3,none⟩=some (.int .i64 x.n):=kk0
     have k1:wr.cell? ⟨g',i2*3+1,none⟩=some (.slice a 64 vc):=by rw[kk1];show some x.v=_;rw[hve]
     have k2:wr.cell? ⟨g',i2*3+2,none⟩=some (.bool false):=kk2
     rw[hve] at hat2
     have hal:=Go.Joins.below_alloc1 wr (.cells #[.int .i64 x.n,.slice a 64 vc,.bool false] 256)
     have hr:=row_new wr 256 #[.int .i64 x.n,.slice a 64 vc,.bool false]
     have d0:(wr.alloc (.cells #[.int .i64 x.n,.slice a 64 vc,.bool false] 256)).cell? ⟨wr.heap.size,0,none⟩=some (.int .i64 x.n):=by rw[hr.cell];rfl
     have d1:(wr.alloc (.cells #[.int .i64 x.n,.slice a 64 vc,.bool false] 256)).cell? ⟨wr.heap.size,1,none⟩=some (.slice a 64 vc):=by rw[hr.cell];rfl
     have d2:(wr.alloc (.cells #[.int .i64 x.n,.slice a 64 vc,.bool false] 256)).cell? ⟨wr.heap.size,2,none⟩=some (.bool false):=by rw[hr.cell];rfl
     have hwl:=congrArg List.length HWC.out
     simp only[List.length_map,List.length_take] at hwl
     have hblk:∀j,x.v.ownBlock=some j→j<w3.heap.size∧w.heap.size≤j:=fun j e=>by
      refine⟨?_,by have:=(hbx j e).1;have:=HB.out.size;omega⟩
      rcases At.ownlt hatx with q|q|q
      ·rw[q] at e;cases e
      ·rw[q] at hx64;cases hx64
      ·exact q j e
     have HWR:=Lib.hid (write2_is (HDW.out.keep hal) hx256 hx64 (hat2.keep hal) (by have:=HM.out;rw[List.length_append];omega) (fun a' n' c' e q=>by
            have h1:=hblk a'.block (by rw[hve,e];rfl)
            rcases q with q|q|q|q
            · have:=hDlt D (.inl rfl);omega
            · have:=hDlt sb (.inr (.inl rfl));omega
            · have:=hDlt nb (.inr (.inr (.inl rfl)));omega
            · have h2:=hDlt _ (.inr (.inr (.inr (HWV.out.2 _ h1.1 q))))
              omega))
     have HX:=Lib.hid (And.intro hx hblk)
     have HAL:=Lib.hid (And.intro hwr0 (And.intro hw3 hDlt))
     clear hx hxm hDlt hw3 hwr0 hgs hB3 hW kk0 kk1 kk2 hx64 hatx hbx hat2 hve hal hr hwl hblk
     go_wp2_with (go_at_call 41;(with_reducible refine HWR.out.mono ?_);rintro e5 w5 ⟨rfl,v',v2,hdw,hv2,hu5,hfr⟩;have HZ:=Lib.hid (And.intro hdw (And.intro hv2 (And.intro hu5 hfr)));clear hdw hv2 hu5 hfr)
     go_roundw
     case rel=>
      obtain⟨hdw,hv2,hu5,hfr⟩:=HZ.out
      obtain⟨hx,hblk⟩:=HX.out
      obtain⟨hwr0,hw3,hDlt⟩:=HAL.out
      have hal:=Go.Joins.below_alloc1 wr (.cells #[.int .i64 x.n,.slice a 64 vc,.bool false] 256)
      refine⟨i2+1,v',wc'++[⟨x.n,v2,x.l⟩],by omega,by go_num,Lib.hid ?_,Lib.hid ?_,Lib.hid ⟨fun y hy j e=>?_,fun j hj e=>?_⟩,Lib.hid ?_⟩
      ·rw[wrAll_next f l' hx,← List.append_assoc];exact hdw
      ·rw[List.take_add_one,hx,Option.toList_some,List.map_append,List.map_append,HWC.out];rfl
      ·rcases List.mem_append.1 hy with q|q
       ·exact HWV.out.1 y q j e
       ·rw[List.mem_singleton] at q
        rw[q] at e
        have:=hv2 j e
        have:=hal.size
        omega
      ·rcases hfr with q|⟨g9,q,q2⟩
       ·rw[q] at e;exact HWV.out.2 j hj e
       ·rw[q2] at e
        have e3:g9=j:=Option.some.inj e
        have:=hal.size
        have:=HU.out.size
        omega
      ·exact(HU.out.trans (Upd.below hal)).trans' hu5 (fun j hj q=>by
                rcases q with q|q|q|q
                · exact .inl q
                · exact .inr (.inl q)
                · exact .inr (.inr (.inl q))
                · exact .inr (.inr (.inr (HWV.out.2 j hj q))))
     case measure=>simp[intOf];omega
    ·obtain rfl:i2=m:=by omega
     have hT:l'.take i2=l':=List.take_of_length_le (by have:=HI.out.2.1;omega)
     have HT:=Lib.hid hT
     clear hT
     go_wp2_with fail
     go_ret
     have h1:=HDW.out
     have h2:=HWC.out
     rw[HT.out] at h1 h2
     exact⟨rfl,⟨wv',wc',l',HQ.out.2.1,h1,h2,HWV.out.1,fun j hj e=>HWV.out.2 j (Nat.lt_of_lt_of_le hj HQ.out.2.2.2.2.size) e⟩,(Upd.below HQ.out.2.2.2.2).trans HU.out⟩
end
def wordL (n:Nat):List Int:=[((n % 256:Nat):Int),((n / 256 % 256:Nat):Int),((n / 65536 % 256:Nat):Int),((n / 16777216 % 256:Nat):Int)]
theorem word_is (w:World) {n:Nat}(hn:n<4294967296):Calls Tryz.prog 132 #[.int .u32 n] w fun e w'=>e=.returned (.slice (some ⟨w.heap.size,0,none⟩) 4 4)∧w'=w.alloc (.cells ((wordL n).map u8V).toArray 5):=by
 have HN:=Lib.hid hn
 clear hn
 go_enter Tryz.func132,Tryz.ntmps132
 go_wp2_with fail
 go_ret
 refine⟨rfl,?_⟩
 simp[wordL,u8V]
def orJ (x y:Value):Sem Value:=binOp .or 50 x y
def shlJ (x y:Value):Sem Value:=binOp .shl 50 x y
def wideJ (x:Value):Sem Value:=convert 5 50 x
theorem wideJ_eq (x:Value):convert 5 50 x=wideJ x:=rfl
theorem wideJ_u32 {x:Nat}(h:x<256) (w:World):(wideJ (.int .u8 x)).run Tryz.prog w=.ok (.int .u32 x) w:=by
 have e:IntKind.u32.wrap (x:Int)=x:=by rw[IntKind.wrap_u32];omega
 unfold wideJ
 simp[go_sem,e]
theorem orJ_eq (x y:Value):binOp .or 50 x y=orJ x y:=rfl
theorem shlJ_eq (x y:Value):binOp .shl 50 x y=shlJ x y:=rfl
theorem wrapsJ_u32 (n:Int)(h₀:0≤n)(h₁:n<2 ^ 32):IntKind.u32.wrap n=n:=by rw[IntKind.wrap_u32];omega
theorem u32_orJ (a b:Nat)(ha:a<2 ^ 32)(hb:b<2 ^ 32):bits .or .u32 (a:Int) (b:Int)=((a ||| b:Nat):Int):=by
 show IntKind.u32.wrap ((BitVec.ofInt 32 (a:Int) ||| BitVec.ofInt 32 (b:Int)).toNat:Int)=_
 rw[BitVec.toNat_or,BitVec.ofInt_natCast,BitVec.ofInt_natCast,BitVec.toNat_ofNat,BitVec.toNat_ofNat,Nat.mod_eq_of_lt ha,Nat.mod_eq_of_lt hb]
 exact wrapsJ_u32 _ (Int.natCast_nonneg _) (by have:=Nat.or_lt_two_pow ha hb;exact_mod_cast this)
theorem or_addJ (x y i:Nat)(hy:y<2 ^ i)(hx:2 ^ i ∣ x):x ||| y=x+y:=by
 obtain⟨k,rfl⟩:=hx
 rw[Nat.mul_comm,← Nat.shiftLeft_eq,← Nat.shiftLeft_add_eq_or_of_lt hy]
theorem orJ_u32 {x y z:Nat}(hx:x<4294967296)(hy:y<4294967296)(h:x ||| y=z) (w:World):(orJ (.int .u32 x) (.int .u32 y)).run Tryz.prog w=.ok (.int .u32 z) w:=by
 have e:=u32_orJ x y hx hy
 unfold orJ
 simp[go_sem,e,h]
theorem shlJ_u32 {x z:Nat} (y k:Nat)(hk:(2:Int) ^ y=k)(hx:x<256)(hk2:k≤16777216)(hz:x*k=z)(hy:y<32) (w:World):(shlJ (.int .u32 x) (.int .u64 y)).run Tryz.prog w=.ok (.int .u32 z) w:=by
 have hz2:z<4294967296:=by rw[← hz];calc x*k≤x*16777216:=Nat.mul_le_mul_left _ hk2
  _<4294967296:=by omega
 have e:((x:Int)*2 ^ y) % 4294967296=z:=by
  rw[hk,← Int.natCast_mul,hz]
  omega
 unfold shlJ
 simp[go_sem,IntKind.wrap,IntKind.bits,IntKind.signed]
 exact e
theorem tJ1 {x0 x1:Nat}(h0:x0<256)(h1:x1<256) (w:World):(orJ (.int .u32 x0) (.int .u32 ((x1*256:Nat):Int))).run Tryz.prog w=.ok (.int .u32 ((x0+x1*256:Nat):Int)) w:=
 orJ_u32 (x:=x0) (y:=x1*256) (z:=x0+x1*256) (by omega) (by omega) (by rw[Nat.or_comm,or_addJ _ _ 8 (by omega) ⟨x1,by omega⟩];omega) w
theorem tJ2 {x0 x1 x2:Nat}(h0:x0<256)(h1:x1<256)(h2:x2<256) (w:World):(orJ (.int .u32 ((x0+x1*256:Nat):Int)) (.int .u32 ((x2*65536:Nat):Int))).run Tryz.prog w=.ok (.int .u32 ((x0+x1*256+x2*65536:Nat):Int)) w:=
 orJ_u32 (x:=x0+x1*256) (y:=x2*65536) (z:=x0+x1*256+x2*65536) (by omega) (by omega) (by rw[Nat.or_comm,or_addJ _ _ 16 (by omega) ⟨x2,by omega⟩];omega) w
theorem tJ3 {x0 x1 x2 x3:Nat}(h0:x0<256)(h1:x1<256)(h2:x2<256)(h3:x3<256) (w:World):(orJ (.int .u32 ((x0+x1*256+x2*65536:Nat):Int)) (.int .u32 ((x3*16777216:Nat):Int))).run Tryz.prog w=.ok (.int .u32 ((x0+x1*256+x2*65536+x3*16777216:Nat):Int)) w:=
 orJ_u32 (x:=x0+x1*256+x2*65536) (y:=x3*16777216) (z:=x0+x1*256+x2*65536+x3*16777216) (by omega) (by omega) (by rw[Nat.or_comm,or_addJ _ _ 24 (by omega) ⟨x3,by omega⟩];omega) w
attribute [local go_sem ↓] orJ_eq shlJ_eq wideJ_eq
theorem jread_walk {w:World} {b off n cap x0 x1 x2 x3 y1 y2 y3 z1 z2 z3:Nat}(hn:4≤n) (c0:w.cell? ⟨b,off,none⟩=some (.int .u8 x0)) (c1:w.cell? ⟨b,off+1,none⟩=some (.int .u8 x1)) (c2:w.cell? ⟨b,off+2,none⟩=some (.int .u8 x2)) (c3:w.cell? ⟨b,off+3,none⟩=some (.int .u8 x3))
  (v0:∀w,(wideJ (.int .u8 x0)).run Tryz.prog w=.ok (.int .u32 x0) w) (v1:∀w,(wideJ (.int .u8 x1)).run Tryz.prog w=.ok (.int .u32 x1) w) (v2:∀w,(wideJ (.int .u8 x2)).run Tryz.prog w=.ok (.int .u32 x2) w) (v3:∀w,(wideJ (.int .u8 x3)).run Tryz.prog w=.ok (.int .u32 x3) w)
  (s1:∀w,(shlJ (.int .u32 x1) (.int .u64 8)).run Tryz.prog w=.ok (.int .u32 y1) w) (s2:∀w,(shlJ (.int .u32 x2) (.int .u64 16)).run Tryz.prog w=.ok (.int .u32 y2) w) (s3:∀w,(shlJ (.int .u32 x3) (.int .u64 24)).run Tryz.prog w=.ok (.int .u32 y3) w)
  (r1:∀w,(orJ (.int .u32 x0) (.int .u32 y1)).run Tryz.prog w=.ok (.int .u32 z1) w) (r2:∀w,(orJ (.int .u32 z1) (.int .u32 y2)).run Tryz.prog w=.ok (.int .u32 z2) w) (r3:∀w,(orJ (.int .u32 z2) (.int .u32 y3)).run Tryz.prog w=.ok (.int .u32 z3) w) :
  Calls Tryz.prog 190 #[.slice (some ⟨b,off,none⟩) n cap] w fun e w'=>e=.returned (.int .u32 z3)∧∃k,w'=w.drewN k:=by
 have k0:0<n:=by omega
 have k1:1<n:=by omega
 have k2:2<n:=by omega
 have k3:3<n:=by omega
 have n0:(0:Int)<(n:Int):=by omega
 have n1:(1:Int)<(n:Int):=by omega
 have n2:(2:Int)<(n:Int):=by omega
 have n3:(3:Int)<(n:Int):=by omega
 go_enter Tryz.func190,Tryz.ntmps190
 go_wp2
 go_quiet (fail)
 go_wp2
 go_ret
 exact⟨rfl,_,rfl⟩
theorem jread_is {w:World} {a:Option Addr} {n cap:Nat} {z:List Int} {m:Nat}(hz:At (Value.int .u8) 0 w (.slice a n cap) z)(h4:4≤n)(hm:m<4294967296)(he:z.take 4=wordL m):Calls Tryz.prog 190 #[.slice a n cap] w fun e w'=>e=.returned (.int .u32 m)∧∃k,w'=w.drewN k:=by
 have hzl:z.length=n:=by obtain⟨a',c',e,_⟩:=hz;injection e with _ e _;exact e.symm
 rcases At.cellB hz with e|⟨b,off,rfl,hb,hc⟩
 ·rw[e] at hzl;simp at hzl;omega
 have hg:∀i,i<4→z.getD i 0=(wordL m).getD i 0:=fun i hi=>by rw[← he];simp[List.getD,List.getElem?_take,hi]
 have c0:=hc 0 (by omega)
 have c1:=hc 1 (by omega)
 have c2:=hc 2 (by omega)
 have c3:=hc 3 (by omega)
 rw[hg 0 (by omega)] at c0
 rw[hg 1 (by omega)] at c1
 rw[hg 2 (by omega)] at c2
 rw[hg 3 (by omega)] at c3
 have h0:m % 256<256:=by omega
 have h1:m / 256 % 256<256:=by omega
 have h2:m / 65536 % 256<256:=by omega
 have h3:m / 16777216 % 256<256:=by omega
 have:=jread_walk (n:=n) (cap:=cap) h4 c0 c1 c2 c3 (wideJ_u32 h0) (wideJ_u32 h1) (wideJ_u32 h2) (wideJ_u32 h3) (fun w=>shlJ_u32 8 256 (by decide) h1 (by decide) rfl (by decide) w) (fun w=>shlJ_u32 16 65536 (by decide) h2 (by decide) rfl (by decide) w) (fun w=>shlJ_u32 24 16777216 (by decide) h3 (by decide) rfl (by decide) w) (tJ1 h0 h1) (tJ2 h0 h1 h2) (tJ3 h0 h1 h2 h3)
 rw[show m % 256+m / 256 % 256*256+m / 65536 % 256*65536+m / 16777216 % 256*16777216=m by omega] at this
 exact this
end Go.Proofs.YtfkepfncgdlgoaaGreatDoor
