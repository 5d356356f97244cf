/- The walk of kernel.Tick where nobody sleeps. Walks of the kernel: send to who lives; exit of a process whose pages others have. The walks of package spread at any run: Block, Wake. -/
import Derived.Test.YtafflkemnniegaaGreatDoorWhA
import Derived.Test.YtafflkemnniegaaGreatDoorSprU
import Derived.BigQuiet
import Derived.Test.YtafflkemnniegaaGreatDoorSpM
namespace Go.Proofs.YtafflkemnniegaaGreatDoor
open Go.RowKit
set_option linter.unusedVariables false
set_option linter.unusedSimpArgs false
section
variable {w w0 w1 w2 : World} {k : KC} {s s0 s' : KSt} {p : Nat}
/-- another run, with what may be said of the rest -/
theorem KG.run {ad' : Option Addr} {cap' : Nat} {l' : List Tk} {tk' : Int} (h : KG s0 k w w1 s) (hr : RunG w2 k.R ad' cap' s.nc tk' (onePin s.nc) l') (hu : Upd (rS k.R s.ad) w1 w2) (hB : ∀ j, rS k.R ad' j → rS k.R s.ad j ∨ w1.heap.size ≤ j) : ∃ tag', KG s0 k w w2 { s with ad := ad', cap := cap', l := l', tk := tk', tag := tag' } :=
  ⟨_, h.step (h.kt.run hr hu hB) hu (fun j e => by rw [h.kt.tR j e]; decide) (fun j e => by
    rcases Nat.lt_or_ge j w1.heap.size with q | q
    · have e : tg s.tag w1.heap.size (rS k.R ad') 5 j ≠ 0 := e
      rw [tg_old q] at e; exact .inl e
    · exact .inr q)⟩
/-- another wheel -/
theorem KG.whl {nw' : Int} {v' : Value} {l' : List (Int × Int)} (h : KG s0 k w w1 s) (hw : WhlG w2 k.Wh nw' v' l') (hu : Upd (wB k.Wh s.wv) w1 w2) (hB : ∀ j, wB k.Wh v' j → wB k.Wh s.wv j ∨ w1.heap.size ≤ j) : ∃ tag', KG s0 k w w2 { s with wn := nw', wv := v', wl := l', tag := tag' } :=
  ⟨_, h.step (h.kt.whl hw hu hB) hu (fun j e => by rw [h.kt.tWh j e]; decide) (fun j e => by
    rcases Nat.lt_or_ge j w1.heap.size with q | q
    · have e : tg s.tag w1.heap.size (wB k.Wh v') 2 j ≠ 0 := e
      rw [tg_old q] at e; exact .inl e
    · exact .inr q)⟩
/-- a cell of the kernel behind its pointers, no task's directory -/
theorem KG.cell (h : KG s0 k w w1 s) {i : Nat} (h8 : 8 ≤ i) (hi : i < 655) (hd : ∀ p : Nat, i ≠ 8 + p * 38 + 17) (v : Value) : KG s0 k w (w1.setCell ⟨k.K, i, none⟩ v) { s with c := upV s.c i v } := by
  have hu : Upd (fun j => j = k.K) w1 (w1.setCell ⟨k.K, i, none⟩ v) := Upd.set _ _ rfl
  have hc : ∀ j, j ≠ i → upV s.c i v j = s.c j := fun j hj => by unfold upV; rw [if_neg hj]
  refine h.step (h.kt.cells (h.kt.kr.set hi v) hu (fun j hj => hc j (by omega)) (fun _ _ => rfl) (fun j hj => h.kt.tz j (Nat.le_trans hu.size hj)) (fun p b hb => ?_)) hu (fun j e => by rw [e, h.kt.tK]; decide) (fun j e => .inl e)
  obtain ⟨⟨cp, h1⟩, h2, h3, h4⟩ := h.kt.cw p b hb
  have hbK : b ≠ k.K := fun e => by rw [e, h.kt.tK] at h4; exact absurd h4 (by decide)
  exact ⟨⟨cp, by rw [hc _ (fun e => hd p e.symm)]; exact h1⟩, (hu.cell h3 hbK).trans h2, Nat.lt_of_lt_of_le h3 hu.size, h4⟩
/-- what Tick asks for -/
structure MayTick (s : KSt) (nw : Int) (b : Int) : Prop where
  c0 : s.c 0 = .int .i64 s.nc
  c9 : s.c 654 = .int .u32 nw
  wv : s.wv = .slice none 0 0
  wl : s.wl = []
  n0 : 0 ≤ s.wn
  n1 : s.wn ≤ nw
  n2 : nw < 100000000
  t0 : 0 ≤ s.tk
  t1 : s.tk < 900000
  v : VOk b s.l
  b1 : b < 100000000000
set_option maxRecDepth 100000 in
set_option maxHeartbeats 2000000 in
theorem ktick_is (h : KT w k s) {nw b : Int} (hm : MayTick s nw b) : Calls Tryz.prog 7 #[.pointer (some ⟨k.K, 0, none⟩)] w fun e w' => e = .returned (.tuple #[]) ∧ ∃ tag', KG s k w w' { s with c := upV s.c 654 (.int .u32 (nw + 1)), wn := nw + 1, l := tickAll s.l s.nc s.nc, tk := s.tk + s.nc, tag := tag' } := by
  have y1 : (nw + 1) % 4294967296 = nw + 1 := by have := hm.n0; have := hm.n1; have := hm.n2; omega
  have q9 : w.cell? ⟨k.K, 654, none⟩ = some (.int .u32 nw) := by rw [h.kr.cell (by decide), hm.c9]
  have f9 := h.kr.fz 654
  have HG0 := Lib.hid (h.start.cell (i := 654) (by decide) (by decide) (fun p => by omega) (.int .u32 (nw + 1)))
  have HM := Lib.hid hm
  clear h hm
  go_enter Tryz.func7, Tryz.ntmps7
  go_upto_region 1 with fail
  generalize hW1 : w.setCell ⟨k.K, 654, none⟩ (.int .u32 (nw + 1)) = W1 at *
  clear hW1 q9 f9 y1
  have HG1 := Lib.hid (HG0.out.keep (Below.refl _ _).drew)
  have HWR : Hid (Row W1.drew k.Wh 126 #[.int .u32 s.wn, .slice none 0 0]) := Lib.hid (by
    have := HG1.out.kt.wh.row
    rw [show ({ s with c := upV s.c 654 (.int .u32 (nw + 1)) } : KSt).wv = .slice none 0 0 from HM.out.wv] at this
    exact this)
  have HWS := Lib.hid (wstep0_is HWR.out HM.out.n0 (show s.wn ≤ nw + 1 by have := HM.out.n1; omega) (by have := HM.out.n2; omega))
  have hkr := HG1.out.kt.kr
  have d5 : W1.drew.cell? ⟨k.K, 5, none⟩ = some (.pointer (some ⟨k.Wh, 0, none⟩)) := by rw [hkr.cell (by decide), HG1.out.kt.c5]
  have d9 : W1.drew.cell? ⟨k.K, 654, none⟩ = some (.int .u32 (nw + 1)) := by
    rw [hkr.cell (by decide)]
    rfl
  have HD0 : Hid (W1.drew.cell? ⟨k.K, 5, none⟩ = some (.pointer (some ⟨k.Wh, 0, none⟩)) ∧ W1.drew.cell? ⟨k.K, 654, none⟩ = some (.int .u32 (nw + 1))) := Lib.hid ⟨d5, d9⟩
  have hWn : k.Wh ≠ k.K := fun e => by
    have a := HG1.out.kt.tK
    have b := HG1.out.kt.tWh k.Wh (.inl rfl)
    rw [e, a] at b
    exact absurd b (by decide)
  have HKK : Hid (∀ w2, Upd (fun j => j = k.Wh) W1.drew w2 → w2.cell? ⟨k.K, 5, none⟩ = some (.pointer (some ⟨k.Wh, 0, none⟩)) ∧ w2.cell? ⟨k.K, 654, none⟩ = some (.int .u32 (nw + 1))) := Lib.hid fun w2 hu => ⟨(hu.cell hkr.lt (Ne.symm hWn)).trans d5, (hu.cell hkr.lt (Ne.symm hWn)).trans d9⟩
  clear hkr d5 d9 hWn
  go_region_held3 (fun wx => wx.cell? ⟨k.K, 5, none⟩ = some (.pointer (some ⟨k.Wh, 0, none⟩)) ∧ wx.cell? ⟨k.K, 654, none⟩ = some (.int .u32 (nw + 1))) (first | assumption | exact HD0.out | go_keep)
    (first | (go_at_call 19; (with_reducible refine HWS.out.mono ?_); rintro e2 w2 ⟨rfl, hr2, hu2⟩; have hS := HKK.out w2 hu2; have HR2 := Lib.hid hr2; have HU2 := Lib.hid hu2; clear hr2 hu2) | fail)
  obtain ⟨t2, hg2⟩ := HG1.out.whl (w2 := w2) (nw' := nw + 1) (v' := s.wv) (l' := s.wl) (by
    rw [HM.out.wv, HM.out.wl]
    exact ⟨HR2.out, World.ownsRow_nil _ _ _ _, fun e => by cases e⟩) (HU2.out.mono fun j _ e => .inl e) (fun j e => .inl e)
  have HG2 := Lib.hid hg2
  clear hg2 hS HD0 HKK HR2 HU2 HWS HWR HG1 HG0
  have d0 : w2.cell? ⟨k.K, 0, none⟩ = some (.int .i64 s.nc) := by
    rw [HG2.out.kt.kr.cell (by decide)]
    show some (upV s.c 654 (.int .u32 (nw + 1)) 0) = _
    unfold upV; rw [if_neg (by decide), HM.out.c0]
  go_wp2_with fail
  refine wp_loop_rounds 1 ?_
  rw [rounds_succ]
  go_wp2_with fail
  go_loopw [40] (fun kv wr => ∃ c : Nat, c ≤ s.nc ∧ kv = .int .i64 c ∧ Hid (∃ tag', KG s k w wr { s with c := upV s.c 654 (.int .u32 (nw + 1)), wn := nw + 1, l := tickAll s.l s.nc c, tk := s.tk + c, tag := tag' })) (fun kv _ => s.nc - (intOf kv).toNat)
  case atStart => exact ⟨0, Nat.zero_le _, rfl, Lib.hid ⟨t2, by have := HG2.out; simpa [tickAll] using this⟩⟩
  case round =>
    obtain ⟨c, hc0, rfl, HR⟩ := hrel
    by_cases hc : c < s.nc
    · have i1 : (c : Int) < s.nc := by omega
      obtain ⟨tg', hg⟩ := HR.out
      have HG := Lib.hid hg
      have cn := hg.kt.cn
      have d4 : wr.cell? ⟨k.K, 4, none⟩ = some (.pointer (some ⟨k.R, 0, none⟩)) := by rw [hg.kt.kr.cell (by decide), hg.kt.c4]
      have HT := Lib.hid (tickG_is hg.kt.ru hc (by exact cn.2) (by have := HM.out.t0; show 0 ≤ s.tk + (c : Int); omega) (by have := HM.out.t1; have h4 : s.nc ≤ 4 := cn.2; show s.tk + (c : Int) < 1000000; omega) (fun i x hx => by
        have := HM.out.v.all s.nc c i x hx
        have h4 : s.nc ≤ 4 := cn.2
        have := HM.out.b1
        omega))
      have i4 : (s.nc : Int) ≤ 4 := by have h4 : s.nc ≤ 4 := cn.2; omega
      clear hg HR cn
      go_wp2_with (go_at_call 21; refine HT.out.mono ?_; rintro e3 w3 ⟨rfl, hr3, hu3⟩; have hg3 := HG.out.run hr3 hu3 (fun j e => .inl e); have HG3 := Lib.hid hg3; clear hr3 hu3 hg3)
      go_roundw
      case rel => exact ⟨c + 1, by omega, by go_num, by
        obtain ⟨t3, h3⟩ := HG3.out
        refine Lib.hid ⟨t3, ?_⟩
        have e : s.tk + ((c + 1 : Nat) : Int) = s.tk + (c : Int) + 1 := by push_cast; omega
        rw [e]
        exact h3⟩
      case measure => simp [intOf]; omega
    · obtain rfl : c = s.nc := by omega
      go_wp2_with fail
      (try simp only [Exit.inBlock, Exit.then]); first | (refine bodyPost_ret (results_none rfl _ _ _) rfl ?_) | (refine bodyPost_end (results_none rfl _ _ _) rfl ?_)
      exact ⟨rfl, HR.out⟩
end
end Go.Proofs.YtafflkemnniegaaGreatDoor
namespace Go.Proofs.YtafflkemnniegaaGreatDoor
open Go.RowKit
set_option linter.unusedVariables false
set_option linter.unusedSimpArgs false
section
variable {w : World} {Wh : Nat} {l : List (Int × Int)} {a p : Int} {v : Value}
/-- a wheel's slice is nil, or a row -/
theorem WhlG.two (h : WhlG w Wh a v l) : (v = .slice none 0 0 ∧ l = []) ∨ ∃ g cap, v = .slice (some ⟨g, 0, none⟩) l.length cap := by
  rcases h.own.2 with ⟨e, hn⟩ | ⟨g, cap, cur, e, _⟩
  · exact .inl ⟨e, List.eq_nil_of_length_eq_zero hn⟩
  · exact .inr ⟨g, cap, e⟩
theorem woutA_is (h : WhlG w Wh a v l) (hl : l.length ≤ 1000) (hn : ∀ (k : Nat) (t : Int × Int), l[k]? = some t → t.2 ≠ p) : Calls Tryz.prog 71 #[.pointer (some ⟨Wh, 0, none⟩), .int .i64 p] w fun e w' => e = .returned (.int .i64 4) ∧ Below w.heap.size w w' := by
  rcases h.two with ⟨rfl, rfl⟩ | ⟨g, cap, rfl⟩
  · exact wout0_is h.row p
  · exact woutT_is h hl hn
theorem waddA_is {b : Int} (h : WhlG w Wh a v l) (hl : l.length ≤ 200) (hn : ∀ (k : Nat) (t : Int × Int), l[k]? = some t → t.2 ≠ p) (ht : ∀ (k : Nat) (t : Int × Int), l[k]? = some t → 0 ≤ t.1 ∧ t.1 < 1000000000) (a0 : 0 ≤ a) (ab : a ≤ b) (b1 : b < 1000000000) :
    Calls Tryz.prog 221 #[.pointer (some ⟨Wh, 0, none⟩), .int .u32 b, .int .i64 p] w fun e w' => e = .returned (.int .i64 0) ∧ ∃ v', WhlG w' Wh a v' (insT l (b, p)) ∧ Upd (wB Wh v) w w' ∧ ∀ j, v'.ownBlock = some j → v.ownBlock = some j ∨ w.heap.size ≤ j := by
  rcases h.two with ⟨rfl, rfl⟩ | ⟨g, cap, rfl⟩
  · refine (wadd0_is h a0 ab b1).mono ?_
    rintro e w' ⟨rfl, v', hw, hu, hf⟩
    exact ⟨rfl, v', hw, hu.mono fun j _ e => .inl e, fun j hj => .inr (hf j hj)⟩
  · exact waddT_is h hl hn ht a0 ab b1
end
/-- who lives, be it asleep or not -/
structure Lives (s : KSt) (p : Nat) : Prop where
  p1 : 1 ≤ p
  p16 : p ≤ 16
  lv : (s.t p).st = 1
  sg : ∀ j, j < 18 → s.c (8 + p * 38 + 19 + j) = .int .i64 0
section
variable {w0 w w1 : World} {k : KC} {s : KSt} {q : Nat} {X : Array Value}
attribute [local go_sem ↓] ld_sig st_sig
set_option maxRecDepth 100000 in
set_option maxHeartbeats 1000000 in
theorem sendL_is (h : KT w k s) (ha : Lives s q) : Calls Tryz.prog 26 #[.pointer (some ⟨k.K, 0, none⟩), .int .i64 q, .int .i64 7] w fun e w' => e = .returned (.tuple #[]) ∧ KT w' k s ∧ Upd (fun j => j = k.K) w w' := by
  have HL := Lib.hid (livingP_is h ha.p1 ha.p16 ha.lv)
  have l1 := h.ldsig ha.p16 ha.sg
  have HP := Lib.hid (ker_putSig (c := s.c) (o := 8 + q * 38 + 19) (by have := ha.p16; omega) ha.sg)
  have HS := Lib.hid (SigLaw.send7_is w)
  have HN := Lib.hid next0_is
  have HST := Lib.hid (fun (w : World) => st0_new w (T := 66) (c := #[.int .i64 0, .int .i64 0, .int .i64 0, .int .i64 0, .int .i64 0, .int .i64 0, .int .i64 0, .int .i64 0, .int .i64 0, .int .i64 0, .int .i64 0, .int .i64 0, .int .i64 0, .int .i64 0, .int .i64 0, .int .i64 0, .int .i64 0, .int .i64 0]) (cs := SigLaw.cellsA SigLaw.zeroG) rfl (by kernel_rfl) (SigLaw.cellsA_one SigLaw.zeroG))
  have HLN := Lib.hid (fun (w : World) => (row_new w 66 (SigLaw.cellsA SigLaw.zeroG)).ld0 (d := _) Tryz.underlying66 rfl (by kernel_rfl))
  have i0 : (q : Int) < 17 := by have := ha.p16; omega
  have HH := Lib.hid h
  have HA := Lib.hid ha
  clear h ha
  have hz1 : (SigLaw.cellsA SigLaw.zeroG).size = 18 := rfl
  have hz2 := SigLaw.cellsA_one SigLaw.zeroG
  have HSK := Lib.hid (fun (wx : World) (hx : KT wx k s) => Row.st hx.kr (o := 8 + q * 38 + 19) (U := 66) (cs := SigLaw.cellsA SigLaw.zeroG) (by rw [kerA_size, hz1]; have := HA.out.p16; omega) (by kernel_rfl) hz2)
  have HLK := Lib.hid (fun (wx : World) (hx : KT wx k s) => hx.ldsig HA.out.p16 HA.out.sg)
  rw [HP.out] at HSK
  clear hz1 hz2 HP
  generalize SigLaw.cellsA SigLaw.zeroG = ZG at *
  go_enter Tryz.func26, Tryz.ntmps26
  go_upto_region 5 with (first | (go_at_call 13; refine HL.out.mono ?_; rintro e1 w1 ⟨rfl, rfl⟩) | (go_at_call 69; refine HS.out.mono ?_; rintro e2 w2 ⟨rfl, hb2⟩; have hst := HST.out w2; have hln := HLN.out w2; have HK2 := Lib.hid ((HH.out.keep hb2).keep (Go.Joins.below_alloc1 w2 (.cells ZG 66))); have hsk := HSK.out _ HK2.out; have HB2 := Lib.hid (hb2.trans ((Go.Joins.below_alloc1 w2 (.cells ZG 66)).mono hb2.size)); clear hb2))
  have HK3 := Lib.hid HK2.out.same
  have HU3 : Hid (Upd (fun j => j = k.K) w ((w2.alloc (.cells ZG 66)).setRow k.K (kerA s.c))) := Lib.hid ((Upd.below HB2.out).trans (Upd.setRow _ (kerA s.c) rfl))
  clear hst hln hsk HB2 HK2
  generalize (w2.alloc (.cells ZG 66)).setRow k.K (kerA s.c) = w3 at *
  have l3 := HLK.out w3 HK3.out
  have HN3 := Lib.hid (HN.out w3)
  clear HN l1 HS HST HLN HSK HLK HL
  go_wp2_with (go_at_call 70; refine HN3.out.mono ?_; rintro e4 w4 ⟨n, rfl, hb4⟩; have HK4 := Lib.hid (HK3.out.keep hb4); have HU4 := Lib.hid (HU3.out.trans (Upd.below hb4)); clear hb4)
  (try simp only [Exit.inBlock, Exit.then]); first | (refine bodyPost_ret (results_none rfl _ _ _) rfl ?_) | (refine bodyPost_end (results_none rfl _ _ _) rfl ?_)
  exact ⟨rfl, HK4.out, HU4.out⟩
end
theorem exitP_is {w : World} {b p : Nat} {c : Int} {t : ProcLaw.T} (h : ProcLaw.TabAt w b t) (hp : ProcLaw.alive t p) (p1 : p ≠ 1) :
    Calls Tryz.prog 105 #[.pointer (some ⟨b, 0, none⟩), .int .i64 p, .int .i64 c] w fun e w' => e = .returned (.tuple #[.int .i64 (ProcLaw.ended t p (bits .and .i64 c 255) p).par, .int .i64 0]) ∧ Upd (fun k => k = b) w w' ∧ ProcLaw.TabAt w' b (ProcLaw.ended t p (bits .and .i64 c 255)) := by
  refine (ProcLaw.exit_is p c h).mono ?_
  rintro e w' ⟨r, en, t', rfl, hu, ht, ⟨_, _, q⟩ | ⟨e0, q, hq, _, _, ht', hr⟩⟩
  · rcases q with q | q
    · exact absurd (ProcLaw.livR_alive hp) q
    · exact absurd (by omega) p1
  · have : q = p := by omega
    subst this
    subst ht'
    rw [hr, e0]
    exact ⟨rfl, hu, ht⟩
theorem MS.shared_mB {m : MS} {u' : Nat → Int} {s : Int} {M so j : Nat} (hj : mB M so (m.shared u' s) j) : mB M so m j := by
  rcases hj with q | q | q | ⟨x, q⟩ | q
  · exact .inl q
  · exact .inr (.inl q)
  · exact .inr (.inr (.inl q))
  · refine .inr (.inr (.inr (.inl ⟨x, ?_⟩)))
    unfold MS.shared at q
    simp only at q
    split at q
    · cases q
    · exact q
  · exact .inr (.inr (.inr (.inr q)))
def tskZ : Array Value := #[.int .i64 0, .int .u32 0, .int .u32 0, .int .u32 0, .int .u32 0, .int .u32 0, .int .u32 0, .int .u32 0, .int .u32 0, .int .u32 0, .int .i64 0, .int .i64 0, .int .i64 0, .slice none 0 0, .int .i64 0, .int .i64 0, .int .i64 0, .slice none 0 0, .slice none 0 0, .int .i64 0, .int .i64 0, .int .i64 0, .int .i64 0, .int .i64 0, .int .i64 0, .int .i64 0, .int .i64 0, .int .i64 0, .int .i64 0, .int .i64 0, .int .i64 0, .int .i64 0, .int .i64 0, .int .i64 0, .int .i64 0, .int .i64 0, .int .i64 0, .bool false]
theorem bd_tsk (ps : Array (Nat × Value)) : Instr.build 68 ps = bdR 68 ps := rfl
theorem bd_tsk0 (w : World) : (bdR 68 #[]).run Tryz.prog w = .ok (.agg tskZ) w := by kernel_rfl
theorem tskZ_size : tskZ.size = 38 := by kernel_rfl
theorem tskZ_one : tskZ.all (·.oneCell') = true := by kernel_rfl
section
variable {w0 w : World} {k : KC} {s : KSt} {p q i b : Nat} {s1 code : Int} {T : KSt → Int → Int → Int → Prop}
attribute [local go_sem ↓] st_tsk bd_tsk
set_option maxRecDepth 100000 in
set_option maxHeartbeats 1000000 in
theorem kexitS_is (h : KT w0 k s) (hp : ProcLaw.alive s.t p) (p1 : p ≠ 1) (hsp : s.c (8 + p * 38) = .int .i64 s1) (hs : s.m.S s1 = some b) (hwf : (Lit.int .i64 s1).wf = true) (hlo : Lone (s.m.F b)) (hpl : ∀ k g r, s.m.F b k = some (g, r) → g ∈ s.m.pl ∧ 2 ≤ s.m.u g ∧ s.m.u g < 1000000) (hwl : s.wl.length ≤ 1000) (hwn : ∀ (k : Nat) (t : Int × Int), s.wl[k]? = some t → t.2 ≠ p)
    (hfd : ∀ j, j < 8 → s.fd (p * 8 + j) = 0) (hid : idG s.l p = some i)
    (hq : (ProcLaw.ended s.t p (bits .and .i64 code 255) p).par = q) (hqp : q ≠ p) (q1 : 1 ≤ q) (q16 : q ≤ 16) (hqs : (ProcLaw.ended s.t p (bits .and .i64 code 255) q).st = 1) (hqg : ∀ j, j < 18 → s.c (8 + q * 38 + 19 + j) = .int .i64 0)
    (hT : ∀ u' (c' : Nat → Value) tag' ad' cap', (∀ g, (∃ k r, s.m.F b k = some (g, r)) → u' g = s.m.u g - 1) → (∀ g, (¬ ∃ k r, s.m.F b k = some (g, r)) → u' g = s.m.u g) → (∀ j, (j < 8 + p * 38 ∨ 8 + p * 38 + 38 ≤ j) → c' j = s.c j) → T { s with tag := tag', c := c', t := ProcLaw.ended s.t p (bits .and .i64 code 255), ad := ad', cap := cap', l := leaveL s.l i s.nc, m := s.m.shared u' s1, cw := fun j => if j = p then none else s.cw j } 0 0 0) :
    SpecE w0 (KOut w0.heap.size k s.tag T) 47 #[.pointer (some ⟨k.K, 0, none⟩), .int .i64 p, .int .i64 code] := by
  intro w h0
  obtain ⟨pp1, pp16, pst⟩ := hp
  have hk := h.keep h0
  have i17 : (p : Int) < 17 := by omega
  have HEX := Lib.hid (exitP_is (c := code) hk.pr ⟨pp1, pp16, pst⟩ p1)
  rw [hq] at HEX
  have q7 : w.cell? ⟨k.K, 7, none⟩ = some (.pointer (some ⟨k.Pr, 0, none⟩)) := by rw [hk.kr.cell (by decide), hk.c7]
  have HS := Lib.hid hk.start
  have HH := Lib.hid h
  have H0 := Lib.hid h0
  have HM := Lib.hid (And.intro hs (And.intro hwf (And.intro hlo hpl)))
  have HWL := Lib.hid (And.intro hwl hwn)
  have HFD := Lib.hid (And.intro hfd hid)
  have HQ := Lib.hid (And.intro hqp (And.intro q1 (And.intro q16 (And.intro hqs hqg))))
  have HSP := Lib.hid hsp
  have HT := Lib.hid hT
  clear h h0 hk hs hwf hlo hpl hwl hwn hfd hid hq hqp hqs hqg hsp hT pst q1 q16
  go_enter Tryz.func47, Tryz.ntmps47
  go_upto_region 5 with (first | (go_at_call 105; refine HEX.out.mono ?_; rintro e1 w1 ⟨rfl, hu1, ht1⟩; have hk1 := HS.out.kt.procs ht1 hu1; have HS1 := Lib.hid (HS.out.step hk1 hu1 (fun j e => by rw [e, HS.out.kt.tPr]; decide) (fun j e => .inl e)); have q6 : w1.cell? ⟨k.K, 6, none⟩ = some (.pointer (some ⟨k.Fi, 0, none⟩)) := (by rw [HS1.out.kt.kr.cell (by decide), HS1.out.kt.c6]); have HDR := Lib.hid (OpenLaw.dropE_is HS1.out.kt.fi pp1 pp16 HFD.out.1); clear hk1 hu1 ht1) | (go_at_call 106; refine HDR.out.mono ?_; rintro e2 w2 ⟨rfl, hb2⟩; have HS2 := Lib.hid (HS1.out.keep hb2); clear hb2))
  clear q7 q6 HEX HDR HS1 HS
  go_wp2_with fail
  refine wp_loop_rounds 1 ?_
  rw [rounds_succ]
  go_upto_region 10 with fail
  have HDM := Lib.hid (dropS_is (HS2.out.kt.me.keep (Below.refl _ _).drew) HM.out.1 HM.out.2.1 HM.out.2.2.1 HM.out.2.2.2)
  have q1 : w2.cell? ⟨k.K, 1, none⟩ = some (.pointer (some ⟨k.M, 0, none⟩)) := by rw [HS2.out.kt.kr.cell (by decide), HS2.out.kt.c1]
  have q8 : w2.cell? ⟨k.K, 8 + p * 38, none⟩ = some (.int .i64 s1) := by rw [HS2.out.kt.kr.cell (by omega), HSP.out]
  go_region_held3 (fun wx => wx.cell? ⟨k.K, 1, none⟩ = some (.pointer (some ⟨k.M, 0, none⟩)) ∧ wx.cell? ⟨k.K, 8 + p * 38, none⟩ = some (.int .i64 s1)) (first | exact ⟨q1, q8⟩ | exact hS3 | assumption)
    ((go_at_call 108; (with_reducible refine HDM.out.mono ?_); rintro e3 w3 ⟨rfl, u', hua, hub, hm3, hu3⟩; have hk3 := (HS2.out.kt.keep (Below.refl _ _).drew).mem hm3 hu3 (fun j e => .inl (MS.shared_mB e)); have HS3 := Lib.hid (HS2.out.step hk3 ((Upd.drew w2).trans hu3) (fun j e => by rw [HS2.out.kt.tM j e]; decide) (fun j e => tg_ne e)); have hS3 := And.intro ((HS3.out.kt.kr.cell (j := 1) (by decide)).trans (congrArg some HS3.out.kt.c1)) ((HS3.out.kt.kr.cell (j := 8 + p * 38) (by omega)).trans (congrArg some HSP.out)); have HM3 := Lib.hid (And.intro hua hub); clear hk3 hm3 hu3 hua hub))
  clear q1 q8 hS3 HDM HM
  have q4 : w3.cell? ⟨k.K, 4, none⟩ = some (.pointer (some ⟨k.R, 0, none⟩)) := by rw [HS3.out.kt.kr.cell (by decide), HS3.out.kt.c4]
  have HLV := Lib.hid (leaveG_is HS3.out.kt.ru HFD.out.2 (by have := HS3.out.kt.cn; exact Nat.le_trans this.2 (by decide)))
  go_upto_region 13 with (first | (go_at_call 109; refine HLV.out.mono ?_; rintro e4 w4 ⟨rfl, ⟨T4, cp4, hr4, hT4⟩, hu4⟩; have hk4 := HS3.out.kt.run hr4 hu4 (fun j e => hT4.elim (fun q => .inl (by rw [q]; exact e)) (fun q => e.elim (fun e => .inl (.inl e)) (fun ⟨a, e1, e2⟩ => .inr (by injection e1 with e1; rw [e2, ← e1]; exact q)))); have HS4 := Lib.hid (HS3.out.step hk4 hu4 (fun j e => by rw [HS3.out.kt.tR j e]; decide) (fun j e => tg_ne e)); have q5 : w4.cell? ⟨k.K, 5, none⟩ = some (.pointer (some ⟨k.Wh, 0, none⟩)) := (by rw [HS4.out.kt.kr.cell (by decide), HS4.out.kt.c5]); have HWO := Lib.hid (woutA_is (p := p) HS4.out.kt.wh HWL.out.1 HWL.out.2); clear hk4 hr4 hu4 hT4) | (go_at_call 71; refine HWO.out.mono ?_; rintro e5 w5 ⟨rfl, hb5⟩; have HS5 := Lib.hid (HS4.out.keep hb5); clear hb5))
  clear q4 q5 HLV HWO HS4 HS3
  have hbd := bd_tsk0
  have hst := HS5.out.kt.kr.stT (o := 8 + p * 38) (by omega) tskZ_size tskZ_one
  have HKP := Lib.hid (HS5.out.kt.kr.putT (C := tskZ) (o := 8 + p * 38) (by omega) tskZ_size)
  have HUP : Hid (Upd (fun j => j = k.K) w5 (w5.setRow k.K (putA (kerA s.c) (8 + p * 38) tskZ.toList))) := Lib.hid (Upd.setRow _ _ rfl)
  generalize w5.setRow k.K (putA (kerA s.c) (8 + p * 38) tskZ.toList) = w6 at *
  go_upto_region 14 with fail
  have HC' : Hid (∃ c', c' = fun j => if 8 + p * 38 ≤ j ∧ j < 8 + p * 38 + 38 then (tskZ[j - (8 + p * 38)]?).getD undef else s.c j) := Lib.hid ⟨_, rfl⟩
  obtain ⟨c', hc'⟩ := HC'.out
  rw [← hc'] at HKP
  have HCO : Hid (∀ j, (j < 8 + p * 38 ∨ 8 + p * 38 + 38 ≤ j) → c' j = s.c j) := Lib.hid fun j hj => by rw [hc']; exact if_neg (by omega)
  have HK6 := Lib.hid (HS5.out.kt.cells (c' := c') (cw' := fun j => if j = p then none else s.cw j) (tag' := _) HKP.out HUP.out (fun j hj => HCO.out j (.inl (by omega))) (fun _ _ => rfl) (fun j hj => HS5.out.kt.tz j (Nat.le_trans HUP.out.size hj)) (fun p' b' hb' => by
    have hne : p' ≠ p := fun e => by rw [if_pos e] at hb'; cases hb'
    rw [if_neg hne] at hb'
    obtain ⟨⟨cp, h1⟩, h2, h3, h4⟩ := HS5.out.kt.cw p' b' hb'
    have hbK : b' ≠ k.K := fun e => by rw [e, HS5.out.kt.tK] at h4; exact absurd h4 (by decide)
    exact ⟨⟨cp, by rw [HCO.out _ (by omega)]; exact h1⟩, (HUP.out.cell h3 hbK).trans h2, Nat.lt_of_lt_of_le h3 HUP.out.size, h4⟩))
  have HS6 := Lib.hid (HS5.out.step HK6.out HUP.out (fun j e => by rw [e, HS5.out.kt.tK]; decide) (fun j e => .inl e))
  clear hbd hst HKP HUP HS5 HC' hc'
  have HSD := Lib.hid (sendL_is (q := q) HS6.out.kt ⟨HQ.out.2.1, HQ.out.2.2.1, HQ.out.2.2.2.1, fun j hj => (HCO.out _ (by have := HQ.out.1; omega)).trans (HQ.out.2.2.2.2 j hj)⟩)
  go_wp2_with (go_at_call 26; refine HSD.out.mono ?_; rintro e7 w7 ⟨rfl, hk7, hu7⟩; have HS7 := Lib.hid (HS6.out.step hk7 hu7 (fun j e => by rw [e, HS6.out.kt.tK]; decide) (fun j e => .inl e)); clear hk7 hu7)
  go_ret
  refine ⟨0, rfl, HS7.out.up.mono (fun j _ e => HH.out.lt e), _, 0, 0, 0, HS7.out.kt, fun j hj => HS7.out.far j hj, rfl, ?_, HS7.out.up⟩
  exact HT.out u' c' _ _ _ HM3.out.1 HM3.out.2 HCO.out
end
end Go.Proofs.YtafflkemnniegaaGreatDoor
namespace Go.Proofs.YtafflkemnniegaaGreatDoor
open Go.RowKit
set_option linter.unusedVariables false
set_option linter.unusedSimpArgs false
section
variable {w w' : World} {R cap T i : Nat} {ad : Option Addr} {cpus ticks pin : Int} {l : List Tk} {x : Tk}
set_option maxRecDepth 100000 in
set_option maxHeartbeats 1000000 in
/-- a task that is ready waits -/
theorem blockG_is {m : Nat} (h : RunG w R (some ⟨T, 0, none⟩) cap m ticks (onePin m) l) (hm : m ≤ 4) {t : Int} (hi : idG l t = some i) (hx : l[i]? = some x) (hr : x.rd = true) : Calls Tryz.prog 222 #[.pointer (some ⟨R, 0, none⟩), .int .i64 t] w fun e w' => e = .returned (.int .i64 0) ∧ RunG w' R (some ⟨T, 0, none⟩) cap m ticks (onePin m) (fillG (l.set i { x with rd := false, cpu := -1 }) m) ∧ Upd (rS R (some ⟨T, 0, none⟩)) w w' := by
  have hil := (List.getElem?_eq_some_iff.1 hx).1
  obtain ⟨T', C, e, hrr⟩ := h.rows (by omega)
  injection e with e; injection e with e; subst e
  have a12 := (hrr.cell (i * 15 + 12)).trans (hrr.at hx).c12
  have f12 := hrr.row.fz (i * 15 + 12)
  have a14 := (hrr.cell (i * 15 + 14)).trans (hrr.at hx).c14
  have f14 := hrr.row.fz (i * 15 + 14)
  rw [hr] at a12
  have HFI := Lib.hid (find_is h t)
  rw [hi, ptrG_some] at HFI
  have hx2 : (l.set i { x with rd := false })[i]? = some { x with rd := false } := by rw [List.getElem?_set]; simp [hil]
  have h2 := (h.setRd hx false).setCpu hx2 (-1)
  rw [List.set_set] at h2
  have HF := Lib.hid (fillG_is h2 (onePin_ok (by omega)) (by omega))
  have HU : Hid (Upd (rS R (some ⟨T, 0, none⟩)) w ((w.setCell ⟨T, i * 15 + 12, none⟩ (.bool false)).setCell ⟨T, i * 15 + 14, none⟩ (.int .i64 (-1)))) := Lib.hid ((Upd.set w _ (.inr ⟨_, rfl, rfl⟩)).trans (Upd.set _ _ (.inr ⟨_, rfl, rfl⟩)))
  clear h hrr hx hx2 h2 hi hil
  go_enter Tryz.func222, Tryz.ntmps222
  go_wp2_with (first | (go_at_call 97; refine HFI.out.mono ?_; rintro e1 w1 ⟨rfl, rfl⟩) | (go_at_call 59; refine HF.out.mono ?_; rintro e2 w2 ⟨rfl, hr2, hu2⟩; have HR2 := Lib.hid hr2; have HU2 := Lib.hid (HU.out.trans hu2); clear hr2 hu2))
  go_ret
  exact ⟨rfl, HR2.out, HU2.out⟩
/-- the virtual time of who wakes -/
def maxO (v : Int) : Option Int → Int
  | none => v
  | some n => if v < n then n else v
def wokeV (l : List Tk) (x : Tk) : Int := maxO x.v (lowG l l.length)
set_option maxRecDepth 100000 in
set_option maxHeartbeats 2000000 in
/-- a task that waits is ready again -/
theorem wakeG_is {m : Nat} (h : RunG w R (some ⟨T, 0, none⟩) cap m ticks (onePin m) l) (h1 : 1 ≤ m) (hm : m ≤ 4) {t : Int} (hi : idG l t = some i) (hx : l[i]? = some x) (hr : x.rd = false) : Calls Tryz.prog 54 #[.pointer (some ⟨R, 0, none⟩), .int .i64 t] w fun e w' => e = .returned (.int .i64 0) ∧ RunG w' R (some ⟨T, 0, none⟩) cap m ticks (onePin m) (fillG (l.set i { x with v := wokeV l x, rd := true, cpu := -1 }) m) ∧ Upd (rS R (some ⟨T, 0, none⟩)) w w' := by
  have hil := (List.getElem?_eq_some_iff.1 hx).1
  obtain ⟨T', C, e, hrr⟩ := h.rows (by omega)
  injection e with e; injection e with e; subst e
  have a12 := (hrr.cell (i * 15 + 12)).trans (hrr.at hx).c12
  rw [hr] at a12
  have HFI := Lib.hid (find_is h t)
  rw [hi, ptrG_some] at HFI
  have HLO := Lib.hid (lowG_is h)
  have HH := Lib.hid h
  have HX := Lib.hid hx
  have HM := Lib.hid (And.intro h1 hm)
  have HIL := Lib.hid hil
  obtain ⟨o, ho⟩ : ∃ o, o = lowG l l.length := ⟨_, rfl⟩
  have HV : Hid (wokeV l x = maxO x.v o) := Lib.hid (by rw [ho]; rfl)
  rw [← ho] at HLO
  clear h hrr hx hi hil ho hr h1 hm
  go_enter Tryz.func54, Tryz.ntmps54
  go_upto_region 7 with (first | (go_at_call 97; refine HFI.out.mono ?_; rintro e1 w1 ⟨rfl, rfl⟩) | (go_at_call 138; refine HLO.out.mono ?_; rintro e2 w2 ⟨rfl, hb2⟩; have HH2 := Lib.hid (HH.out.keep hb2); have HU2 := Lib.hid (Upd.below (S := rS R (some ⟨T, 0, none⟩)) hb2); clear hb2))
  clear HFI HLO HH a12
  obtain ⟨T', C, e, hrr⟩ := HH2.out.rows (by have := HIL.out; omega)
  injection e with e; injection e with e; subst e
  have a1 := (hrr.cell (i * 15 + 1)).trans (hrr.at HX.out).c1
  have a9 := (hrr.cell (i * 15 + 9)).trans (hrr.at HX.out).c9
  have f9 := hrr.row.fz (i * 15 + 9)
  cases o with
  | none =>
    obtain ⟨l1, hl1⟩ : ∃ l1, l1 = l := ⟨_, rfl⟩
    obtain ⟨y, hy⟩ : ∃ y, y = x := ⟨_, rfl⟩
    have HR1 : Hid (RunG w2 R (some ⟨T, 0, none⟩) cap m ticks (onePin m) l1) := Lib.hid (by rw [hl1]; exact HH2.out)
    have HU1 := HU2
    have HX1 : Hid (l1[i]? = some y) := Lib.hid (by rw [hl1, hy]; exact HX.out)
    have HL1 : Hid (l1.set i { y with rd := true, cpu := -1 } = l.set i { x with v := wokeV l x, rd := true, cpu := -1 }) := Lib.hid (by rw [HV.out, hl1, hy]; rfl)
    clear a1 a9 f9 hrr hl1 hy HH2 HU2
    unfold lowN lowB
    go_upto_region 9 with fail
    have HTI := Lib.hid (time_is HR1.out HM.out.1 HM.out.2)
    go_upto_region 10 with (go_at_call 57; refine HTI.out.mono ?_; rintro e3 w3 ⟨q, rfl, hb3⟩; have HR3 := Lib.hid (HR1.out.keep hb3); have HU3 := Lib.hid (HU1.out.trans (Upd.below hb3)); clear hb3)
    clear HTI
    obtain ⟨T', C, e, hrr⟩ := HR3.out.rows (by have := (List.getElem?_eq_some_iff.1 HX1.out).1; omega)
    injection e with e; injection e with e; subst e
    have b1 := (hrr.cell (i * 15 + 1)).trans (hrr.at HX1.out).c1
    have HX4 : Hid ((l1.set i { y with rd := true })[i]? = some { y with rd := true }) := Lib.hid (by rw [List.getElem?_set]; simp [(List.getElem?_eq_some_iff.1 HX1.out).1])
    clear hrr
    go_quiet (fail)
    generalize hnq : w3.drewN _ = w4 at *
    have HB4 : Hid (Below w3.heap.size w3 w4) := Lib.hid (by rw [← hnq]; exact below_drewN (Below.refl _ _) _)
    have hr4 := HR3.out.keep HB4.out
    have HU4 := Lib.hid ((HU3.out.trans (Upd.below HB4.out)).trans (Upd.set w4 (b := T) (i := i * 15 + 12) (.bool true) (.inr ⟨_, rfl, rfl⟩)))
    obtain ⟨T', C, e, hrr⟩ := hr4.rows (by have := (List.getElem?_eq_some_iff.1 HX1.out).1; omega)
    injection e with e; injection e with e; subst e
    have c12 := (hrr.cell (i * 15 + 12)).trans (hrr.at HX1.out).c12
    have g12 := hrr.row.fz (i * 15 + 12)
    have HWT := Lib.hid (waitG_is (hr4.setRd HX1.out true) HX4.out)
    clear hr4 hrr b1 hnq HB4 HR3 HU3 HR1 HU1
    go_wp2_with (first | (go_at_call 58; refine HWT.out.mono ?_; rintro e5 w5 ⟨rfl, hr5, hu5⟩; have HU5 := Lib.hid (HU4.out.trans hu5); have HF := Lib.hid (fillG_is hr5 (onePin_ok (by have := HM.out; omega)) (by have := HM.out; omega)); clear hr5 hu5) | (go_at_call 59; refine HF.out.mono ?_; rintro e6 w6 ⟨rfl, hr6, hu6⟩; have HR6 := Lib.hid hr6; have HU6 := Lib.hid (HU5.out.trans hu6); clear hr6 hu6))
    go_ret
    refine ⟨rfl, ?_, HU6.out⟩
    have h6 := HR6.out
    rw [List.set_set, HL1.out] at h6
    exact h6
  | some n =>
    unfold lowN lowB
    go_upto_region 9 with fail
    obtain ⟨vn, hvn⟩ : ∃ vn, vn = (if x.v < n then n else x.v) := ⟨_, rfl⟩
    rw [← hvn]
    obtain ⟨l1, hl1⟩ : ∃ l1, l1 = l.set i { x with v := vn } := ⟨_, rfl⟩
    obtain ⟨y, hy⟩ : ∃ y : Tk, y = { x with v := vn } := ⟨_, rfl⟩
    have HR1 : Hid (RunG (w2.setCell ⟨T, i * 15 + 9, none⟩ (.int .i64 vn)) R (some ⟨T, 0, none⟩) cap m ticks (onePin m) l1) := Lib.hid (by rw [hl1]; exact HH2.out.setV HX.out _)
    have HU1 : Hid (Upd (rS R (some ⟨T, 0, none⟩)) w (w2.setCell ⟨T, i * 15 + 9, none⟩ (.int .i64 vn))) := Lib.hid (HU2.out.trans (Upd.set _ _ (.inr ⟨_, rfl, rfl⟩)))
    have HX1 : Hid (l1[i]? = some y) := Lib.hid (by rw [hl1, hy, List.getElem?_set]; simp [HIL.out])
    have HL1 : Hid (l1.set i { y with rd := true, cpu := -1 } = l.set i { x with v := wokeV l x, rd := true, cpu := -1 }) := Lib.hid (by rw [HV.out, hl1, hy, List.set_set, hvn]; rfl)
    clear a1 a9 f9 hrr hl1 hy HH2 HU2 hvn
    generalize w2.setCell ⟨T, i * 15 + 9, none⟩ (.int .i64 vn) = w5 at *
    have HTI := Lib.hid (time_is HR1.out HM.out.1 HM.out.2)
    go_upto_region 10 with (go_at_call 57; refine HTI.out.mono ?_; rintro e3 w3 ⟨q, rfl, hb3⟩; have HR3 := Lib.hid (HR1.out.keep hb3); have HU3 := Lib.hid (HU1.out.trans (Upd.below hb3)); clear hb3)
    clear HTI
    obtain ⟨T', C, e, hrr⟩ := HR3.out.rows (by have := (List.getElem?_eq_some_iff.1 HX1.out).1; omega)
    injection e with e; injection e with e; subst e
    have b1 := (hrr.cell (i * 15 + 1)).trans (hrr.at HX1.out).c1
    have HX4 : Hid ((l1.set i { y with rd := true })[i]? = some { y with rd := true }) := Lib.hid (by rw [List.getElem?_set]; simp [(List.getElem?_eq_some_iff.1 HX1.out).1])
    clear hrr
    go_quiet (fail)
    generalize hnq : w3.drewN _ = w4 at *
    have HB4 : Hid (Below w3.heap.size w3 w4) := Lib.hid (by rw [← hnq]; exact below_drewN (Below.refl _ _) _)
    have hr4 := HR3.out.keep HB4.out
    have HU4 := Lib.hid ((HU3.out.trans (Upd.below HB4.out)).trans (Upd.set w4 (b := T) (i := i * 15 + 12) (.bool true) (.inr ⟨_, rfl, rfl⟩)))
    obtain ⟨T', C, e, hrr⟩ := hr4.rows (by have := (List.getElem?_eq_some_iff.1 HX1.out).1; omega)
    injection e with e; injection e with e; subst e
    have c12 := (hrr.cell (i * 15 + 12)).trans (hrr.at HX1.out).c12
    have g12 := hrr.row.fz (i * 15 + 12)
    have HWT := Lib.hid (waitG_is (hr4.setRd HX1.out true) HX4.out)
    clear hr4 hrr b1 hnq HB4 HR3 HU3 HR1 HU1
    go_wp2_with (first | (go_at_call 58; refine HWT.out.mono ?_; rintro e5 w5 ⟨rfl, hr5, hu5⟩; have HU5 := Lib.hid (HU4.out.trans hu5); have HF := Lib.hid (fillG_is hr5 (onePin_ok (by have := HM.out; omega)) (by have := HM.out; omega)); clear hr5 hu5) | (go_at_call 59; refine HF.out.mono ?_; rintro e6 w6 ⟨rfl, hr6, hu6⟩; have HR6 := Lib.hid hr6; have HU6 := Lib.hid (HU5.out.trans hu6); clear hr6 hu6))
    go_ret
    refine ⟨rfl, ?_, HU6.out⟩
    have h6 := HR6.out
    rw [List.set_set, HL1.out] at h6
    exact h6
end
end Go.Proofs.YtafflkemnniegaaGreatDoor
