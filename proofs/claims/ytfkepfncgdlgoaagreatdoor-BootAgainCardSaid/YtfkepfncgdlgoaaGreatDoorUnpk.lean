/- The walk of check.Load. The walks of package extent at no sectors. The walk of extent.Unpack at zeros. The walks of package inode at the node that is nothing, and at the root. The walks of inode.Pack at the node that is nothing, and at the root. The walk of inode.Unpack at zeros. Printed by gen_unpk.py. -/
import Derived.Test.YtfkepfncgdlgoaaGreatDoorSnapU
import Derived.Laws.IdiomStrings
import Derived.BigQuiet
import Derived.Test.YtfkepfncgdlgoaaGreatDoorSprB
import Derived.Deep.RegionHeld3
namespace Go.Proofs.YtfkepfncgdlgoaaGreatDoor
open Go.RowKit
set_option linter.unusedVariables false
set_option linter.unusedSimpArgs false
set_option maxRecDepth 100000
set_option maxHeartbeats 4000000
theorem method_read (v:Value) (w:World):(method 618 25 v "Read").run Tryz.prog w=.ok (47,v) w:=by kernel_rfl
theorem method_size (v:Value) (w:World):(method 618 25 v "Size").run Tryz.prog w=.ok (40,v) w:=by kernel_rfl
def catS (f:List Int):Nat→List Int
 | 0=>[]
 | k+1=>catS f k++sect f (1+k)
theorem catS_len {f:List Int}(hf:f.length=256*64):∀k,k<4→(catS f k).length=k*64
 | 0,_=>rfl
 | k+1,h=>by rw[catS,List.length_append,catS_len hf k (by omega),sect_len (S:=256) hf (by omega)];omega
structure FL (G:Nat→Nat):Prop where
 r:FR G
 lt:∀j,G j<256
 t0:G 0≠0
 nd:∀k i,k<4→i<16→G (k*48)≠0→37≤G (k*48+i)
attribute [local go_sem ↓] ld_set st_set ld_for st_for ld_tre ld_nod ix_nod appB_eq
section
variable {w w':World} {D sb nb m:Nat} {wv:Value} {s f:List Int} {G:Nat→Nat}
theorem cload_is (h:Dk w D sb nb wv m 256 s f)(hG:FL G)(hf:catS f 3=pkS G 4):Calls Tryz.prog 49 #[.iface 25 (.pointer (some ⟨D,0,none⟩))] w fun e w'=>e=.returned (.tuple #[.agg (forA G),.int .i64 0])∧Below w.heap.size w w':=by
 have hmr:=method_read
 have hmz:=method_size
 have HD:=Lib.hid h
 have HG:=Lib.hid hG
 have HF:=Lib.hid hf
 have hz:Tryz.zeroCells115=forA (fun _=>0):=by kernel_rfl
 clear h hG hf
 go_enter Tryz.func49,Tryz.ntmps49
 go_upto_region 1 with fail
 have HR0:Hid (Row (w.alloc (.cells (forA (fun _=>0)) 115)) w.heap.size 115 (forA (fun _=>0))):=Lib.hid (row_new w _ _)
 have HB0:=Lib.hid (Go.Joins.below_alloc1 w (.cells (forA (fun _=>0)) 115))
 have HZ0:Hid ((w.alloc (.cells (forA (fun _=>0)) 115)).heap.size=w.heap.size+1):=Lib.hid (by simp)
 have HD0:=Lib.hid (HD.out.keep HB0.out)
 generalize w.alloc (.cells (forA (fun _=>0)) 115)=w0 at *
 clear HD
 go_wp2_with fail
 go_loopw [4,13] (fun ov kv wr=>∃k v,k≤3∧v=ov∧kv=.int .i64 (k:Nat)∧Hid (Below w0.heap.size w0 wr)∧Hid (OB w0.heap.size wr v (catS f k))) (fun ov kv _=>3-(intOf kv).toNat)
 case atStart=>exact⟨0,_,by omega,rfl,rfl,Lib.hid (Below.refl _ _),Lib.hid (OB.nil _ _)⟩
 case round=>
  obtain⟨k,v,hk0,rfl,rfl,HB,HO⟩:=hrel
  by_cases hk:k<3
  ·have i0:(0:Int)≤k:=by omega
   have i1:(k:Int)<3:=by omega
   have HRD:=Lib.hid (read_is (HD0.out.keep HB.out) (k:=1+k) (by omega))
   have HSL:=Lib.hid (sect_len HD0.out.lf (k:=1+k) (by omega))
   rw[show ((1+k:Nat):Int)=1+(k:Int) by omega] at HRD
   have HCL:=Lib.hid (catS_len HD0.out.lf k (by omega))
   go_upto_region 6 with (go_at_call 47;refine HRD.out.mono ?_;rintro e5 w5 ⟨v5,rfl,ho5,hb5⟩)
   obtain⟨p5,c5,rfl⟩:=own_form ho5
   obtain⟨b,o,rfl,hc⟩:=own_cells ho5 HSL.out (by decide)
   have HB5:=Lib.hid (HB.out.trans (hb5.mono HB.out.size))
   obtain⟨p6,c6,w6,hap,ho6,hb6⟩:=(HO.out.keep hb5).app' HB5.out.size (c:=c5) HSL.out hc (by rw[HCL.out];omega)
   have ho6:OB w0.heap.size w6 _ (catS f (k+1)):=ho6
   have HO6:=Lib.hid ho6
   have HB6:=Lib.hid (HB5.out.trans hb6)
   clear ho6 hb6 ho5 hb5 hc HRD
   go_wp2_with fail
   go_roundw
   case rel=>exact⟨k+1,_,by omega,rfl,by go_num,HB6,HO6⟩
   case measure=>simp[intOf];omega
  ·obtain rfl:k=3:=by omega
   have HAT:Hid (At (Value.int .u8) 0 wr v (pkS G 4)):=Lib.hid (by rw[← HF.out];exact HO.out.at)
   have HSU:=Lib.hid (sunpack_is HG.out.r HG.out.lt HAT.out)
   have HA:=Lib.hid (forA_size G)
   have HO1:=Lib.hid (forA_one G)
   have HZS:=Lib.hid (forA_size (fun _=>0))
   have HD1:=Lib.hid (HD0.out.keep HB.out)
   have HR1:=Lib.hid (HR0.out.keepB HB.out (by rw[HZ0.out];omega))
   have HB1:=Lib.hid (HB0.out.trans (HB.out.mono HB0.out.size))
   obtain⟨A,hA⟩:∃A,A=forA G:=⟨_,rfl⟩
   obtain⟨Z,hZ⟩:∃Z,Z=forA (fun _=>0):=⟨_,rfl⟩
   rw[← hA] at HSU HA HO1
   rw[← hZ] at hz HZS HR1
   have HAE:=Lib.hid hA
   clear hA hZ HO HAT HD0 HR0 HB0 HB HZ0
   go_upto_region 11 with (go_at_call 110;refine HSU.out.mono ?_;rintro e5 w5 ⟨rfl,hb5⟩;have st5:=st0_new w5 (T:=115) (c:=Z) (cs:=A) (by rw[HA.out,HZS.out]) (by rw[HA.out];kernel_rfl) HO1.out)
   have HR5:=Lib.hid (row_new w5 115 A)
   have hal:=Go.Joins.below_alloc1 w5 (.cells A 115)
   have HD5:=Lib.hid ((HD1.out.keep hb5).keep hal)
   have HR05:=Lib.hid ((HR1.out.keep hb5).keep hal)
   have HB5:=Lib.hid (HB1.out.trans ((hb5.trans (hal.mono hb5.size)).mono HB1.out.size))
   have HL5:Hid (w.heap.size<w5.heap.size):=Lib.hid (Nat.lt_of_lt_of_le HR1.out.lt hb5.size)
   clear st5 hal hb5 HSU HD1 HR1 HB1
   generalize w5.alloc (.cells A 115)=w6 at *
   have l6:=HR5.out.ld0 Tryz.underlying115 rfl (by rw[HA.out];kernel_rfl)
   have HT:=Lib.hid (there_is w6 (G:=G) (k:=0) (by decide) (b:=true) (by
        have:=HG.out.t0
        simp[this]))
   rw[← HAE.out] at HT
   go_upto_region 13 with (go_at_call 111;refine HT.out.mono ?_;rintro e7 w7 ⟨rfl,hb7⟩)
   have HD7:=Lib.hid (HD5.out.keep hb7)
   have HR7:=Lib.hid (HR5.out.keep hb7)
   have HR07:=Lib.hid (HR05.out.keep hb7)
   have HB7:=Lib.hid (HB5.out.trans (hb7.mono HB5.out.size))
   clear HT l6 HD5 HR5 HR05 HB5 hb7
   go_wp2_with fail
   go_loopw [43] (fun kv wr=>∃k,k≤4∧kv=.int .i64 (k:Nat)∧Hid (Below w7.heap.size w7 wr)) (fun kv _=>4-(intOf kv).toNat)
   case atStart=>exact⟨0,by omega,rfl,Lib.hid (Below.refl _ _)⟩
   case round=>
    obtain⟨k,hk0,rfl,HB⟩:=hrel
    by_cases hk:k<4
    ·have i0:(0:Int)≤k:=by omega
     have i1:(k:Int)<4:=by omega
     have HR:=Lib.hid (HR7.out.keep HB.out)
     have l1:(ldR 58 (.pointer (some ⟨w5.heap.size,k*48,none⟩))).run Tryz.prog wr=.ok (.agg (nodA (fun j=>G (k*48+j)))) wr:=by
      rw[HR.out.ld (o:=k*48) (n:=16) (by rw[HA.out];omega) Tryz.underlying58 rfl (by kernel_rfl),HAE.out,forA_nod G hk]
     have HIX:=Lib.hid (show ∀(w:World) (i:Nat),i<16→(ixR 58 (.agg (nodA (fun j=>G (k*48+j)))) (.int .i64 i)).run Tryz.prog w=.ok (.int .i64 (G (k*48+i))) w from fun w i hi=>ix_is w (fun j=>G (k*48+j)) hi)
     generalize nodA (fun j=>G (k*48+j))=N at *
     go_wp2_with fail
     clear l1 HR
     go_loopw [50] (fun iv wr=>∃i,i≤16∧iv=.int .i64 (i:Nat)∧Hid (Below w7.heap.size w7 wr)) (fun iv _=>16-(intOf iv).toNat)
     case atStart=>exact⟨0,by omega,rfl,HB⟩
     case round=>
      clear HB
      obtain⟨i,hi0,rfl,HB⟩:=hrel
      by_cases hi:i<16
      ·have j0:(0:Int)≤i:=by omega
       have j1:(i:Int)<16:=by omega
       have hx:=HIX.out wr i hi
       have hlt:=HG.out.lt (k*48+i)
       have HR:=Lib.hid (HR7.out.keep HB.out)
       have l2:=HR.out.ld0 Tryz.underlying115 rfl (by rw[HA.out];kernel_rfl)
       by_cases hz0:G (k*48)=0
       ·have HT:=Lib.hid (there_is wr (G:=G) hk (b:=false) (by rw[hz0];rfl))
        rw[← HAE.out] at HT
        generalize G (k*48+i)=g at *
        clear hz0 hlt
        go_upto_region 20 with (go_at_call 111;refine HT.out.mono ?_;rintro e8 w8 ⟨rfl,hb8⟩)
        exact⟨⟨i+1,by omega,by go_num,Lib.hid (HB.out.trans (hb8.mono HB.out.size))⟩,by simp[intOf];omega⟩
       ·have HT:=Lib.hid (there_is wr (G:=G) hk (b:=true) (by rw[beq_eq_false_iff_ne.2 hz0];rfl))
        rw[← HAE.out] at HT
        have hnd:=HG.out.nd k i hk hi hz0
        generalize G (k*48+i)=g at *
        have g0:¬(g:Int)<37:=by omega
        have g1:¬(256:Int)≤g:=by omega
        clear hz0 hlt hnd
        go_upto_region 20 with (first|(go_at_call 111;refine HT.out.mono ?_;rintro e8 w8 ⟨rfl,hb8⟩;have HB8:=Lib.hid (HB.out.trans (hb8.mono HB.out.size));have HSZ:=Lib.hid (size_is (HD7.out.keep HB8.out));clear hb8)|(go_at_call 40;refine HSZ.out.mono ?_;rintro e9 w9 ⟨rfl,rfl⟩))
        exact⟨⟨i+1,by omega,by go_num,HB8⟩,by simp[intOf];omega⟩
      ·obtain rfl:i=16:=by omega
       go_wp2_with fail
       go_roundw
       case rel=>exact⟨k+1,by omega,by go_num,HB⟩
       case measure=>simp[intOf];omega
    ·obtain rfl:k=4:=by omega
     have hr:=HR7.out.keep HB.out
     have hr0:=HR07.out.keep HB.out
     have l1:=hr.ld0 Tryz.underlying115 rfl (by rw[HA.out];kernel_rfl)
     have s6:=hr0.st0 (cs:=A) (by rw[HA.out,HZS.out]) (by rw[HA.out];kernel_rfl) HO1.out
     have l7:=(hr0.setRow A).ldV Tryz.underlying115 rfl (by rw[HA.out];kernel_rfl)
     have hb9:=HB7.out.trans (HB.out.mono HB7.out.size)
     have HB9:=Lib.hid (hb9.trans (Upd.toBelow (Upd.setRow wr A (b:=w.heap.size) (S:=fun k=>k=w.heap.size) rfl) hb9.size (by omega)))
     generalize wr.setRow w.heap.size A=w9 at *
     clear hr hr0 hb9
     go_wp2_with fail
     exact bodyPost_ret (v:=.tuple #[.agg A,.int .i64 0]) (by rw[results_cell_tmp rfl];simp[asAddr,Result.andThen,l7]) rfl ⟨by rw[HAE.out],HB9.out⟩
end
attribute [local go_sem ↓] mkB_eq
theorem xright_is (w:World):Calls Tryz.prog 187 #[.slice none 0 0] w fun e w'=>e=.returned (.int .i64 0)∧w=w':=by
 go_enter Tryz.func187,Tryz.ntmps187
 go_wp2_with fail
 refine wp_loop_rounds 1 ?_
 rw[rounds_succ]
 go_wp2_with fail
 go_ret
 exact⟨rfl,rfl⟩
theorem xof_is (w:World):Calls Tryz.prog 188 #[.slice none 0 0] w fun e w'=>e=.returned (.tuple #[.slice none 0 0,.int .i64 0])∧w=w':=by
 have HR:=Lib.hid (xright_is w)
 go_enter Tryz.func188,Tryz.ntmps188
 go_wp2_with (go_at_call 187;refine HR.out.mono ?_;rintro e1 w1 ⟨rfl,rfl⟩)
 refine wp_loop_rounds 1 ?_
 rw[rounds_succ]
 go_wp2_with fail
 go_ret2
 exact⟨rfl,rfl⟩
theorem xpoints_is (w:World):Calls Tryz.prog 255 #[.slice none 0 0] w fun e w'=>e=.returned (.tuple #[.slice none 0 0,.int .i64 0])∧w=w':=by
 go_enter Tryz.func255,Tryz.ntmps255
 go_wp2_with fail
 refine wp_loop_rounds 1 ?_
 rw[rounds_succ]
 go_wp2_with fail
 go_ret2
 exact⟨rfl,rfl⟩
theorem xpack_is (w:World):Calls Tryz.prog 108 #[.slice none 0 0] w fun e w'=>e=.returned (.tuple #[.slice (some ⟨w.heap.size,0,none⟩) 16 16,.int .i64 0])∧w'=w.alloc (.cells ((zeros 16).map u8V).toArray 5):=by
 have HO:=Lib.hid (xof_is w)
 have hmk:=mkB16 w
 generalize w.alloc (.cells ((zeros 16).map u8V).toArray 5)=w9 at *
 go_enter Tryz.func108,Tryz.ntmps108
 go_wp2_with (go_at_call 188;refine HO.out.mono ?_;rintro e1 w1 ⟨rfl,rfl⟩)
 refine wp_loop_rounds 1 ?_
 rw[rounds_succ]
 go_wp2_with fail
 go_ret2
 exact⟨rfl,rfl⟩
theorem blocks0_is (w:World):Calls Tryz.prog 128 #[.int .i64 0] w fun e w'=>e=.returned (.int .i64 0)∧w=w':=by
 go_enter Tryz.func128,Tryz.ntmps128
 go_wp2_with fail
 go_ret
 exact⟨rfl,rfl⟩
def zstr:ByteArray:=⟨(List.replicate 16 (0:UInt8)).toArray⟩
theorem zeros_get (n j:Nat):(zeros n).getD j 0=0:=by
 unfold zeros
 rw[List.getD_eq_getElem?_getD,List.getElem?_replicate]
 split <;> rfl
theorem conv0 {w:World} {a:Option Addr} {cap:Nat}(h:At (Value.int .u8) 0 w (.slice a 16 cap) (zeros 16)):(convert 22 9 (.slice a 16 cap)).run Tryz.prog w=.ok (.string zstr) w:=by
 rcases At.cellB h with e|⟨b,o,rfl,-,hc⟩
 ·cases e
 ·refine run_convert_bytes_back w 22 9 5 ⟨b,o,none⟩ cap (List.replicate 16 (0:UInt8)) Tryz.underlying22 Tryz.underlying5 Tryz.underlying9 fun j hj=>?_
  have hj':j<16:=by simpa using hj
  rw[Addr.add_lit,hc j (by simpa [zeros_len] using hj')]
  have e1:(zeros 16).getD j 0=0:=zeros_get 16 j
  have e2:∀(n:Nat) (hj:j<(List.replicate n (0:UInt8)).length),(List.replicate n (0:UInt8))[j]=0:=fun n hj=>List.getElem_replicate hj
  rw[e1,e2 16 hj]
  rfl
theorem xunpack_is {w:World} {v:Value}(hv:At (Value.int .u8) 0 w v (zeros 16)):Calls Tryz.prog 191 #[v] w fun e w'=>e=.returned (.tuple #[.slice none 0 0,.int .i64 0])∧Below w.heap.size w w':=by
 have hat:=hv
 obtain⟨a,cap,rfl,hl,hcm,-⟩:=hv
 rw[zeros_len] at hl hat ⊢
 rcases At.cellB hat with e|⟨b,o,rfl,hlt,hc⟩
 ·cases e
 have c1:w.cell? ⟨b,o+1,none⟩=some (.int .u8 0):=hc 1 (by decide)
 have hal:=Go.Joins.below_alloc1 w (.cells ((zeros 16).map u8V).toArray 5)
 have k1:=conv0 (hat.keep hal)
 have k2:=conv0 (at_new w (zeros 16) 5 (by decide))
 rw[zeros_len] at k2
 have HB:=Lib.hid hal
 have HP:=Lib.hid (xpoints_is w)
 have HK:=Lib.hid (xpack_is w)
 generalize w.alloc (.cells ((zeros 16).map u8V).toArray 5)=w1 at *
 generalize zstr=S at *
 clear hat hc hal hlt hl hcm
 go_enter Tryz.func191,Tryz.ntmps191
 go_wp2_with fail
 refine wp_loop_rounds 1 ?_
 rw[rounds_succ]
 go_wp2_with (first|(go_at_call 255;refine HP.out.mono ?_;rintro e1 w2 ⟨rfl,rfl⟩)|(go_at_call 108;refine HK.out.mono ?_;rintro e1 w2 ⟨rfl,rfl⟩))
 go_ret2
 exact⟨rfl,HB.out⟩
def nodeA (kind mode links up:Int):Array Value:=#[.int .i64 kind,.int .i64 mode,.int .i64 0,.int .i64 0,.int .i64 0,.int .i64 links,.int .i64 up,.slice none 0 0]
attribute [local go_sem ↓] mkB_eq
theorem iright0_is (w:World):Calls Tryz.prog 107 #[.agg (nodeA 0 0 0 0)] w fun e w'=>e=.returned (.int .i64 0)∧Below w.heap.size w w':=by
 unfold nodeA
 go_enter Tryz.func107,Tryz.ntmps107
 go_wp2_with fail
 go_ret
 exact⟨rfl,Go.Joins.below_alloc1 w _⟩
theorem iright1_is (w:World):Calls Tryz.prog 107 #[.agg (nodeA 2 493 1 1)] w fun e w'=>e=.returned (.int .i64 0)∧Below w.heap.size w w':=by
 unfold nodeA
 have HB:=Lib.hid (Go.Joins.below_alloc1 w (.cells #[.int .i64 2,.int .i64 493,.int .i64 0,.int .i64 0,.int .i64 0,.int .i64 1,.int .i64 1,.slice none 0 0] 120))
 have HR:=Lib.hid (xright_is (w.alloc (.cells #[.int .i64 2,.int .i64 493,.int .i64 0,.int .i64 0,.int .i64 0,.int .i64 1,.int .i64 1,.slice none 0 0] 120)))
 go_enter Tryz.func107,Tryz.ntmps107
 go_upto_region 14 with (go_at_call 187;refine HR.out.mono ?_;rintro e1 w1 ⟨rfl,rfl⟩)
 go_region_with (go_at_call 128;refine(blocks0_is _).mono ?_;rintro e1 w1 ⟨rfl,rfl⟩)
 all_goals
  go_wp2_with fail
  go_ret
  exact⟨rfl,HB.out.drew⟩
def rootL:List Int:=[2,237,1,0,0,0,0,1,1]++zeros 23
theorem ld_ino (v:Value):Instr.loadAt 120 v=ldR 120 v:=rfl
theorem nodeA_ld {w:World} {b:Nat} {k m l u:Int}(h:Row w b 120 (nodeA k m l u)):(ldR 120 (.pointer (some ⟨b,0,none⟩))).run Tryz.prog w=.ok (.agg (nodeA k m l u)) w:=h.ld0 Tryz.underlying120 rfl (by kernel_rfl)
attribute [local go_sem ↓] mkB_eq ld_ino copyB_eq
theorem ipack0_is (w:World):Calls Tryz.prog 44 #[.agg (nodeA 0 0 0 0)] w fun e w'=>∃v,e=.returned (.tuple #[v,.int .i64 0])∧OB w.heap.size w' v (zeros 32)∧Below w.heap.size w w':=by
 have HB:=Lib.hid (Go.Joins.below_alloc1 w (.cells (nodeA 0 0 0 0) 120))
 have HR:=Lib.hid (row_new w 120 (nodeA 0 0 0 0))
 have l0:=nodeA_ld HR.out
 have HRI:=Lib.hid (iright0_is (w.alloc (.cells (nodeA 0 0 0 0) 120)))
 have HN:=Lib.hid (show nodeA 0 0 0 0=#[.int .i64 0,.int .i64 0,.int .i64 0,.int .i64 0,.int .i64 0,.int .i64 0,.int .i64 0,.slice none 0 0] from rfl)
 generalize nodeA 0 0 0 0=A at *
 go_enter Tryz.func44,Tryz.ntmps44
 go_upto_region 1 with fail
 generalize w.alloc (.cells A 120)=w0 at *
 go_upto_region 2 with (go_at_call 107;refine HRI.out.mono ?_;rintro e1 w1 ⟨rfl,hb1⟩)
 have HB1:=Lib.hid (HB.out.trans (hb1.mono HB.out.size))
 have HB2:=Lib.hid (HB1.out.alloc HB1.out.size (.cells ((zeros 32).map u8V).toArray 5))
 have hr2:=HR.out.keep hb1
 have c0:w1.cell? ⟨w.heap.size,0,none⟩=some (.int .i64 0):=by rw[hr2.cell,HN.out];rfl
 have hr3:=hr2.alloc (.cells ((zeros 32).map u8V).toArray 5)
 have c1:(w1.alloc (.cells ((zeros 32).map u8V).toArray 5)).cell? ⟨w.heap.size,0,none⟩=some (.int .i64 0):=by rw[hr3.cell,HN.out];rfl
 have hmk:=mkB32 w1
 have HO:=Lib.hid (ob_of_bk (B:=w.heap.size) (bk_new w1 (zeros 32)) HB1.out.size (by decide) (c:=32) rfl)
 generalize w1.alloc (.cells ((zeros 32).map u8V).toArray 5)=w2 at *
 clear l0 HR HRI hb1 hr2 hr3
 go_wp2_with fail
 go_ret2
 exact⟨_,rfl,HO.out,HB2.out⟩
theorem st_ino0 (p v:Value):Instr.storeAt 120 p v=stR 120 p v:=rfl
attribute [local go_sem ↓] ld_ino st_ino0
theorem iunpack0_is {w:World} {v:Value}(hv:At (Value.int .u8) 0 w v (zeros 32)):Calls Tryz.prog 112 #[v] w fun e w'=>e=.returned (.tuple #[.agg (nodeA 0 0 0 0),.int .i64 0])∧Below w.heap.size w w':=by
 have HV:=Lib.hid hv
 obtain⟨a,cap,rfl,hl,hcm,-⟩:=hv
 rw[show (zeros 32).length=32 from rfl] at hl HV ⊢
 rcases At.cellB HV.out with e|⟨b,o,rfl,hlt,hc⟩
 ·cases e
 have HC:=Lib.hid hc
 have HLT:=Lib.hid hlt
 have HCM:=Lib.hid hcm
 clear hc hlt hcm
 go_enter Tryz.func112,Tryz.ntmps112
 go_upto_region 3 with fail
 have HB0:=Lib.hid (Go.Joins.below_alloc1 w (.cells #[.int .i64 0,.int .i64 0,.int .i64 0,.int .i64 0,.int .i64 0,.int .i64 0,.int .i64 0,.slice none 0 0] 120))
 have HR0:Hid (Row (w.alloc (.cells #[.int .i64 0,.int .i64 0,.int .i64 0,.int .i64 0,.int .i64 0,.int .i64 0,.int .i64 0,.slice none 0 0] 120)) w.heap.size 120 (nodeA 0 0 0 0)):=Lib.hid (row_new w _ _)
 have HV0:=Lib.hid (HV.out.keep HB0.out)
 have HLT0:Hid (b<(w.alloc (.cells #[.int .i64 0,.int .i64 0,.int .i64 0,.int .i64 0,.int .i64 0,.int .i64 0,.int .i64 0,.slice none 0 0] 120)).heap.size):=Lib.hid (Nat.lt_of_lt_of_le HLT.out HB0.out.size)
 have HC0:Hid (∀i,i<32→(w.alloc (.cells #[.int .i64 0,.int .i64 0,.int .i64 0,.int .i64 0,.int .i64 0,.int .i64 0,.int .i64 0,.slice none 0 0] 120)).cell? ⟨b,o+i,none⟩=some (.int .u8 ((zeros 32).getD i 0))):=Lib.hid (fun i hi=>by rw[HB0.out.cell (p:=⟨b,o+i,none⟩) HLT.out,HC.out i hi])
 generalize w.alloc (.cells #[.int .i64 0,.int .i64 0,.int .i64 0,.int .i64 0,.int .i64 0,.int .i64 0,.int .i64 0,.slice none 0 0] 120)=w0 at *
 have HS:Hid (w0.cell? ⟨b,o,none⟩=some (.int .u8 0)∧w0.cell? ⟨b,o+1,none⟩=some (.int .u8 0)∧w0.cell? ⟨b,o+2,none⟩=some (.int .u8 0)∧w0.cell? ⟨b,o+3,none⟩=some (.int .u8 0)∧w0.cell? ⟨b,o+4,none⟩=some (.int .u8 0)∧w0.cell? ⟨b,o+5,none⟩=some (.int .u8 0)∧w0.cell? ⟨b,o+6,none⟩=some (.int .u8 0)∧w0.cell? ⟨b,o+7,none⟩=some (.int .u8 0)∧w0.cell? ⟨b,o+8,none⟩=some (.int .u8 0)):=Lib.hid ⟨HC0.out 0 (by decide),HC0.out 1 (by decide),HC0.out 2 (by decide),HC0.out 3 (by decide),HC0.out 4 (by decide),HC0.out 5 (by decide),HC0.out 6 (by decide),HC0.out 7 (by decide),HC0.out 8 (by decide)⟩
 have HSA:Hid (∀ob,(w0.alloc ob).cell? ⟨b,o,none⟩=some (.int .u8 0)∧(w0.alloc ob).cell? ⟨b,o+1,none⟩=some (.int .u8 0)∧(w0.alloc ob).cell? ⟨b,o+2,none⟩=some (.int .u8 0)∧(w0.alloc ob).cell? ⟨b,o+3,none⟩=some (.int .u8 0)∧(w0.alloc ob).cell? ⟨b,o+4,none⟩=some (.int .u8 0)∧(w0.alloc ob).cell? ⟨b,o+5,none⟩=some (.int .u8 0)∧(w0.alloc ob).cell? ⟨b,o+6,none⟩=some (.int .u8 0)∧(w0.alloc ob).cell? ⟨b,o+7,none⟩=some (.int .u8 0)∧(w0.alloc ob).cell? ⟨b,o+8,none⟩=some (.int .u8 0)):=Lib.hid (fun ob=>by
    have h:=HS.out
    have k:∀j,(w0.alloc ob).cell? ⟨b,j,none⟩=w0.cell? ⟨b,j,none⟩:=fun j=>World.cell?_alloc_lt _ _ _ HLT0.out
    simp only[k]
    exact h)
 have HR1:Hid (Row ((w0.alloc (.cells #[.int .i64 0,.int .i64 0,.int .i64 0,.int .i64 0,.int .i64 0,.int .i64 0,.int .i64 0,.slice none 0 0] 120)).drew) w0.heap.size 120 #[.int .i64 0,.int .i64 0,.int .i64 0,.int .i64 0,.int .i64 0,.int .i64 0,.int .i64 0,.slice none 0 0]):=Lib.hid (row_new w0 120 #[.int .i64 0,.int .i64 0,.int .i64 0,.int .i64 0,.int .i64 0,.int .i64 0,.int .i64 0,.slice none 0 0]).drew
 have eN:#[.int .i64 (IntKind.i64.wrap 0),.int .i64 (bits BinOp.or IntKind.i64 (IntKind.i64.wrap 0) (IntKind.i64.wrap ((IntKind.i64.wrap 0)*256))),.int .i64 (IntKind.i64.wrap 0),.int .i64 (IntKind.i64.wrap 0),.int .i64 (bits BinOp.or IntKind.i64 (IntKind.i64.wrap 0) (IntKind.i64.wrap ((IntKind.i64.wrap 0)*256))),.int .i64 (IntKind.i64.wrap 0),.int .i64 (IntKind.i64.wrap 0),.slice none 0 0]=(nodeA 0 0 0 0):=by rfl
 have stn:(stR 120 (.pointer (some ⟨w0.heap.size,0,none⟩)) (.agg #[.int .i64 (IntKind.i64.wrap 0),.int .i64 (bits BinOp.or IntKind.i64 (IntKind.i64.wrap 0) (IntKind.i64.wrap ((IntKind.i64.wrap 0)*256))),.int .i64 (IntKind.i64.wrap 0),.int .i64 (IntKind.i64.wrap 0),.int .i64 (bits BinOp.or IntKind.i64 (IntKind.i64.wrap 0) (IntKind.i64.wrap ((IntKind.i64.wrap 0)*256))),.int .i64 (IntKind.i64.wrap 0),.int .i64 (IntKind.i64.wrap 0),.slice none 0 0])).run Tryz.prog ((w0.alloc (.cells #[.int .i64 0,.int .i64 0,.int .i64 0,.int .i64 0,.int .i64 0,.int .i64 0,.int .i64 0,.slice none 0 0] 120)).drew)=.ok () (((w0.alloc (.cells #[.int .i64 0,.int .i64 0,.int .i64 0,.int .i64 0,.int .i64 0,.int .i64 0,.int .i64 0,.slice none 0 0] 120)).drew).setRow w0.heap.size (nodeA 0 0 0 0)):=by
  rw[HR1.out.st0 (cs:=#[.int .i64 (IntKind.i64.wrap 0),.int .i64 (bits BinOp.or IntKind.i64 (IntKind.i64.wrap 0) (IntKind.i64.wrap ((IntKind.i64.wrap 0)*256))),.int .i64 (IntKind.i64.wrap 0),.int .i64 (IntKind.i64.wrap 0),.int .i64 (bits BinOp.or IntKind.i64 (IntKind.i64.wrap 0) (IntKind.i64.wrap ((IntKind.i64.wrap 0)*256))),.int .i64 (IntKind.i64.wrap 0),.int .i64 (IntKind.i64.wrap 0),.slice none 0 0]) rfl (by kernel_rfl) (by rw[eN];simp[nodeA,Value.oneCell']),eN]
 have HR2:=Lib.hid (HR1.out.setRow (nodeA 0 0 0 0))
 have HW2:=Lib.hid (((Go.Joins.below_alloc1 w0 (.cells #[.int .i64 0,.int .i64 0,.int .i64 0,.int .i64 0,.int .i64 0,.int .i64 0,.int .i64 0,.slice none 0 0] 120)).drew).trans (Upd.toBelow (Upd.setRow ((w0.alloc (.cells #[.int .i64 0,.int .i64 0,.int .i64 0,.int .i64 0,.int .i64 0,.int .i64 0,.int .i64 0,.slice none 0 0] 120)).drew) (b:=w0.heap.size) (nodeA 0 0 0 0) (S:=fun k=>k=w0.heap.size) rfl) (by simp[World.drew]) (by omega)))
 have HS2:Hid ((((w0.alloc (.cells #[.int .i64 0,.int .i64 0,.int .i64 0,.int .i64 0,.int .i64 0,.int .i64 0,.int .i64 0,.slice none 0 0] 120)).drew).setRow w0.heap.size (nodeA 0 0 0 0)).cell? ⟨b,o,none⟩=some (.int .u8 0)∧(((w0.alloc (.cells #[.int .i64 0,.int .i64 0,.int .i64 0,.int .i64 0,.int .i64 0,.int .i64 0,.int .i64 0,.slice none 0 0] 120)).drew).setRow w0.heap.size (nodeA 0 0 0 0)).cell? ⟨b,o+1,none⟩=some (.int .u8 0)∧(((w0.alloc (.cells #[.int .i64 0,.int .i64 0,.int .i64 0,.int .i64 0,.int .i64 0,.int .i64 0,.int .i64 0,.slice none 0 0] 120)).drew).setRow w0.heap.size (nodeA 0 0 0 0)).cell? ⟨b,o+2,none⟩=some (.int .u8 0)∧(((w0.alloc (.cells #[.int .i64 0,.int .i64 0,.int .i64 0,.int .i64 0,.int .i64 0,.int .i64 0,.int .i64 0,.slice none 0 0] 120)).drew).setRow w0.heap.size (nodeA 0 0 0 0)).cell? ⟨b,o+3,none⟩=some (.int .u8 0)∧(((w0.alloc (.cells #[.int .i64 0,.int .i64 0,.int .i64 0,.int .i64 0,.int .i64 0,.int .i64 0,.int .i64 0,.slice none 0 0] 120)).drew).setRow w0.heap.size (nodeA 0 0 0 0)).cell? ⟨b,o+4,none⟩=some (.int .u8 0)∧(((w0.alloc (.cells #[.int .i64 0,.int .i64 0,.int .i64 0,.int .i64 0,.int .i64 0,.int .i64 0,.int .i64 0,.slice none 0 0] 120)).drew).setRow w0.heap.size (nodeA 0 0 0 0)).cell? ⟨b,o+5,none⟩=some (.int .u8 0)∧(((w0.alloc (.cells #[.int .i64 0,.int .i64 0,.int .i64 0,.int .i64 0,.int .i64 0,.int .i64 0,.int .i64 0,.slice none 0 0] 120)).drew).setRow w0.heap.size (nodeA 0 0 0 0)).cell? ⟨b,o+6,none⟩=some (.int .u8 0)∧(((w0.alloc (.cells #[.int .i64 0,.int .i64 0,.int .i64 0,.int .i64 0,.int .i64 0,.int .i64 0,.int .i64 0,.slice none 0 0] 120)).drew).setRow w0.heap.size (nodeA 0 0 0 0)).cell? ⟨b,o+7,none⟩=some (.int .u8 0)∧(((w0.alloc (.cells #[.int .i64 0,.int .i64 0,.int .i64 0,.int .i64 0,.int .i64 0,.int .i64 0,.int .i64 0,.slice none 0 0] 120)).drew).setRow w0.heap.size (nodeA 0 0 0 0)).cell? ⟨b,o+8,none⟩=some (.int .u8 0)):=Lib.hid (by
    have h:=HS.out
    have k:∀j,((((w0.alloc (.cells #[.int .i64 0,.int .i64 0,.int .i64 0,.int .i64 0,.int .i64 0,.int .i64 0,.int .i64 0,.slice none 0 0] 120)).drew).setRow w0.heap.size (nodeA 0 0 0 0))).cell? ⟨b,j,none⟩=w0.cell? ⟨b,j,none⟩:=fun j=>HW2.out.cell (p:=⟨b,j,none⟩) HLT0.out
    simp only[k]
    exact h)
 clear HC eN
 generalize hw2:((w0.alloc (.cells #[.int .i64 0,.int .i64 0,.int .i64 0,.int .i64 0,.int .i64 0,.int .i64 0,.int .i64 0,.slice none 0 0] 120)).drew).setRow w0.heap.size (nodeA 0 0 0 0)=w2 at *
 clear hw2
 go_region_held3 (fun wx=>wx.cell? ⟨b,o,none⟩=some (.int .u8 0)∧wx.cell? ⟨b,o+1,none⟩=some (.int .u8 0)∧wx.cell? ⟨b,o+2,none⟩=some (.int .u8 0)∧wx.cell? ⟨b,o+3,none⟩=some (.int .u8 0)∧wx.cell? ⟨b,o+4,none⟩=some (.int .u8 0)∧wx.cell? ⟨b,o+5,none⟩=some (.int .u8 0)∧wx.cell? ⟨b,o+6,none⟩=some (.int .u8 0)∧wx.cell? ⟨b,o+7,none⟩=some (.int .u8 0)∧wx.cell? ⟨b,o+8,none⟩=some (.int .u8 0)) (first|assumption|exact HS.out|exact HSA.out _|exact HS2.out) (first|fail)
 clear stn HS HSA HR1 HS2
 have HLZ:Hid (w.heap.size<w0.heap.size):=Lib.hid HR0.out.lt
 have HR02:=Lib.hid (HR0.out.keep HW2.out)
 have HV2:=Lib.hid (HV0.out.keep HW2.out)
 have HB2:=Lib.hid (HB0.out.trans (HW2.out.mono HB0.out.size))
 obtain⟨q,hq⟩:∃q,q=w0.heap.size:=⟨_,rfl⟩
 have HX:Hid (At (Value.int .u8) 0 w2 (.slice (some ⟨b,o+9,none⟩) 16 (cap-9)) (zeros 16)):=Lib.hid (by
    refine⟨_,_,rfl,by rw[zeros_len];omega,by have:=HCM.out;omega,.inr ⟨b,o+9,rfl,Nat.lt_of_lt_of_le HLT0.out HW2.out.size,fun i hi=>?_⟩⟩
    rw[zeros_len] at hi
    rw[HW2.out.cell (p:=⟨b,o+9+i,none⟩) HLT0.out,show o+9+i=o+(9+i) by omega,HC0.out (9+i) (by omega),zeros_get]
    have:i=0∨i=1∨i=2∨i=3∨i=4∨i=5∨i=6∨i=7∨i=8∨i=9∨i=10∨i=11∨i=12∨i=13∨i=14∨i=15:=by omega
    rcases this with rfl|rfl|rfl|rfl|rfl|rfl|rfl|rfl|rfl|rfl|rfl|rfl|rfl|rfl|rfl|rfl <;> rfl)
 have HXU:=Lib.hid (xunpack_is HX.out)
 clear HC0 HR0 HV0 HV HB0 HX HW2
 have b1:25≤cap:=by omega
 have b2:¬cap=9:=by omega
 clear hq
 go_upto_region 5 with (go_at_call 191;refine HXU.out.mono ?_;rintro e3 w3 ⟨rfl,hb3⟩)
 have HB3:=Lib.hid (HB2.out.trans (hb3.mono HB2.out.size))
 have HR3:=Lib.hid (HR2.out.keep hb3)
 have HR03:=Lib.hid (HR02.out.keep hb3)
 have HV3:=Lib.hid (HV2.out.keep hb3)
 clear HB2 HR2 HR02 HV2 HXU hb3
 have c7:w3.cell? ⟨w0.heap.size,7,none⟩=some (.slice none 0 0):=by rw[HR3.out.cell];rfl
 have f7:=HR3.out.fz 7
 have u4:Upd (fun k=>k=w0.heap.size) w3 (w3.setCell ⟨w0.heap.size,7,none⟩ (.slice none 0 0)):=Upd.set _ _ rfl
 have HR4:Hid (Row (w3.setCell ⟨w0.heap.size,7,none⟩ (.slice none 0 0)) w0.heap.size 120 (nodeA 0 0 0 0)):=Lib.hid (by
    rw[HR3.out.setCell];exact HR3.out.setRow _)
 have HR04:=Lib.hid (HR03.out.upd u4 (by have:=HLZ.out;omega))
 have HB4:=Lib.hid (HB3.out.trans (u4.toBelow HB3.out.size (by have:=HLZ.out;omega)))
 have HV4:Hid (At (Value.int .u8) 0 (w3.setCell ⟨w0.heap.size,7,none⟩ (.slice none 0 0)) (.slice (some ⟨b,o,none⟩) 32 cap) (zeros 32)):=Lib.hid (by
    obtain⟨a',cap',e1,e2,e3,e4⟩:=HV3.out
    refine⟨a',cap',e1,e2,e3,?_⟩
    rcases e4 with e4|⟨b',o',g1,g2,g3⟩
    · exact .inl e4
    · injection e1 with e1 _ _
      rw[g1] at e1
      injection e1 with e1
      injection e1 with e1 _ _
      refine .inr ⟨b',o',g1,Nat.lt_of_lt_of_le g2 u4.size,fun i hi=>?_⟩
      rw[u4.cell g2 (by have:=HLT0.out;omega)]
      exact g3 i hi)
 clear HR3 HR03 HB3 HV3 u4
 go_upto_region 8 with fail
 clear c7 f7
 generalize w3.setCell ⟨w0.heap.size,7,none⟩ (.slice none 0 0)=w4 at *
 have l4:=HR4.out.ld0 Tryz.underlying120 rfl (by kernel_rfl)
 have HP:=Lib.hid (ipack0_is w4)
 obtain⟨N,hN⟩:∃N,N=(nodeA 0 0 0 0):=⟨_,rfl⟩
 rw[← hN] at l4 HP HR4
 have HNN:=Lib.hid hN
 clear hN
 go_upto_region 9 with (go_at_call 44;refine HP.out.mono ?_;rintro e5 w5 ⟨v5,rfl,ho5,hb5⟩)
 have HB5:=Lib.hid (HB4.out.trans (hb5.mono HB4.out.size))
 have HR5:=Lib.hid (HR4.out.keep hb5)
 have HR05:=Lib.hid (HR04.out.keep hb5)
 have HEQ:=Lib.hid (equalB_is (by decide) ho5.at (HV4.out.keep hb5))
 clear HP HB4 HR4 HR04 HV4 ho5 hb5 l4
 go_upto_region 11 with (go_at_call 10;refine HEQ.out.mono ?_;rintro e6 w6 ⟨rfl,hb6⟩)
 have HB6:=Lib.hid (HB5.out.trans (hb6.mono HB5.out.size))
 have HR6:=HR5.out.keep hb6
 have HR06:=HR05.out.keep hb6
 have l6:=HR6.ld0 Tryz.underlying120 rfl (by rw[HNN.out];kernel_rfl)
 have s6:=HR06.st0 (cs:=N) (by rw[HNN.out] <;> rfl) (by rw[HNN.out];kernel_rfl) (by rw[HNN.out];simp[nodeA,Value.oneCell'])
 have l7:=(HR06.setRow N).ldV Tryz.underlying120 rfl (by rw[HNN.out];kernel_rfl)
 have HB7:=Lib.hid (HB6.out.trans (Upd.toBelow (Upd.setRow w6 N (b:=w.heap.size) (S:=fun k=>k=w.heap.size) rfl) HB6.out.size (by omega)))
 generalize w6.setRow w.heap.size N=w7 at *
 clear HR6 HR06 hb6 HEQ HB5 HR5 HR05
 go_wp2_with fail
 exact bodyPost_ret (v:=.tuple #[.agg N,.int .i64 0]) (by rw[results_cell_tmp rfl];simp[asAddr,Result.andThen,l7]) rfl ⟨by rw[HNN.out],HB7.out⟩
end Go.Proofs.YtfkepfncgdlgoaaGreatDoor
