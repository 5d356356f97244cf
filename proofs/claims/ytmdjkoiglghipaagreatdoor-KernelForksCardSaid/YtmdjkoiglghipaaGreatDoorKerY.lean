/- Walks of kernel.send (signal 7 to a process that has none), kernel.exit. Walk of kernel.exit. A kernel that has begun, as one state. The states that the law of ends goes through, and what may be asked in each. -/
import Derived.Test.YtmdjkoiglghipaaGreatDoorKerT
import Derived.Test.YtmdjkoiglghipaaGreatDoorStarted
namespace Go.Proofs.YtmdjkoiglghipaaGreatDoor
open Go.RowKit
set_option linter.unusedVariables false
set_option linter.unusedSimpArgs false
theorem next0_is (w : World) : Calls Tryz.prog 79 #[.agg (SigLaw.cellsA SigLaw.zeroG)] w fun e w' => ∃ n : Int, e = .returned (.tuple #[.int .i64 n, .int .i64 4]) ∧ Below w.heap.size w w' := by
  refine (SigLaw.next_is SigLaw.zeroG w SigLaw.zeroG_bb).mono ?_
  rintro e w' ⟨n, en, rfl, hb, ⟨-, hn⟩ | ⟨P, M, hr, ⟨-, k, -, -, -, hk, -⟩ | ⟨rfl, -, -⟩⟩⟩
  · exact absurd SigLaw.zeroG_good hn
  · have hP : P = 0 := by have := hr.p; simp [SigLaw.zeroG] at this; omega
    subst hP
    simp at hk
  · exact ⟨n, rfl, hb⟩
theorem ker_putSig {c : Nat → Value} {o : Nat} (ho : o + 18 ≤ 655) (h : ∀ j, j < 18 → c (o + j) = .int .i64 0) : putA (kerA c) o (SigLaw.cellsA SigLaw.zeroG).toList = kerA c := by
  apply Array.ext_getElem?
  intro j
  have hl : (SigLaw.cellsA SigLaw.zeroG).toList.length = 18 := rfl
  rw [putA_get (by rw [hl, kerA_size]; omega), hl]
  by_cases hr : o ≤ j ∧ j < o + 18
  · rw [if_pos hr, ← sig_cellsP ho h]
    simp only [Array.getElem?_toList]
    rw [Array.getElem?_extract, if_pos (by rw [kerA_size]; omega)]
    congr 1
    omega
  · rw [if_neg hr]
section
variable {w0 w w1 : World} {k : KC} {s : KSt} {q : Nat} {X : Array Value}
/-- the kernel's row written anew as it was -/
theorem KT.same (h : KT w k s) : KT (w.setRow k.K (kerA s.c)) k s := by
  have u : Upd (fun j => j = k.K) w (w.setRow k.K (kerA s.c)) := Upd.setRow _ _ rfl
  have hr : KR (w.setRow k.K (kerA s.c)) k.K s.c := Row.setRow h.kr _
  generalize w.setRow k.K (kerA s.c) = w' at *
  have := h.cells (c' := s.c) (cw' := s.cw) (tag' := s.tag) hr u (fun _ _ => rfl) (fun _ _ => rfl) (fun j hj => h.tz j (Nat.le_trans u.size hj)) (fun p b hb => by
    obtain ⟨h1, h2, h3, h4⟩ := h.cw p b hb
    have hbK : b ≠ k.K := fun e => by rw [e, h.tK] at h4; exact absurd h4 (by decide)
    exact ⟨h1, (u.cell h3 hbK).trans h2, Nat.lt_of_lt_of_le h3 u.size, h4⟩)
  cases s
  exact this
attribute [local go_sem ↓] ld_sig st_sig
set_option maxRecDepth 100000 in
set_option maxHeartbeats 1000000 in
theorem sendP_is (h : KT w k s) (ha : Awake s q) : Calls Tryz.prog 86 #[.pointer (some ⟨k.K, 0, none⟩), .int .i64 q, .int .i64 7] w fun e w' => e = .returned (.tuple #[]) ∧ KT w' k s ∧ Upd (fun j => j = k.K) w w' := by
  have HL := Lib.hid (livingP_is h ha.p1 ha.p16 ha.lv)
  have l1 := h.ldsig ha.p16 ha.sg
  have HP := Lib.hid (ker_putSig (c := s.c) (o := 8 + q * 38 + 19) (by have := ha.p16; omega) ha.sg)
  have HS := Lib.hid (SigLaw.send7_is w)
  have HN := Lib.hid next0_is
  have HST := Lib.hid (fun (w : World) => st0_new w (T := 64) (c := #[.int .i64 0, .int .i64 0, .int .i64 0, .int .i64 0, .int .i64 0, .int .i64 0, .int .i64 0, .int .i64 0, .int .i64 0, .int .i64 0, .int .i64 0, .int .i64 0, .int .i64 0, .int .i64 0, .int .i64 0, .int .i64 0, .int .i64 0, .int .i64 0]) (cs := SigLaw.cellsA SigLaw.zeroG) rfl (by kernel_rfl) (SigLaw.cellsA_one SigLaw.zeroG))
  have HLN := Lib.hid (fun (w : World) => (row_new w 64 (SigLaw.cellsA SigLaw.zeroG)).ld0 (d := _) Tryz.underlying64 rfl (by kernel_rfl))
  have i0 : (q : Int) < 17 := by have := ha.p16; omega
  have HH := Lib.hid h
  have HA := Lib.hid ha
  clear h ha
  have hz1 : (SigLaw.cellsA SigLaw.zeroG).size = 18 := rfl
  have hz2 := SigLaw.cellsA_one SigLaw.zeroG
  have HSK := Lib.hid (fun (wx : World) (hx : KT wx k s) => Row.st hx.kr (o := 8 + q * 38 + 19) (U := 64) (cs := SigLaw.cellsA SigLaw.zeroG) (by rw [kerA_size, hz1]; have := HA.out.p16; omega) (by kernel_rfl) hz2)
  have HLK := Lib.hid (fun (wx : World) (hx : KT wx k s) => hx.ldsig HA.out.p16 HA.out.sg)
  rw [HP.out] at HSK
  clear hz1 hz2 HP
  generalize SigLaw.cellsA SigLaw.zeroG = ZG at *
  go_enter Tryz.func86, Tryz.ntmps86
  go_upto_region 5 with (first | (go_at_call 16; refine HL.out.mono ?_; rintro e1 w1 ⟨rfl, rfl⟩) | (go_at_call 162; refine HS.out.mono ?_; rintro e2 w2 ⟨rfl, hb2⟩; have hst := HST.out w2; have hln := HLN.out w2; have HK2 := Lib.hid ((HH.out.keep hb2).keep (Go.Joins.below_alloc1 w2 (.cells ZG 64))); have hsk := HSK.out _ HK2.out; have HB2 := Lib.hid (hb2.trans ((Go.Joins.below_alloc1 w2 (.cells ZG 64)).mono hb2.size)); clear hb2))
  have HK3 := Lib.hid HK2.out.same
  have HU3 : Hid (Upd (fun j => j = k.K) w ((w2.alloc (.cells ZG 64)).setRow k.K (kerA s.c))) := Lib.hid ((Upd.below HB2.out).trans (Upd.setRow _ (kerA s.c) rfl))
  clear hst hln hsk HB2 HK2
  generalize (w2.alloc (.cells ZG 64)).setRow k.K (kerA s.c) = w3 at *
  have l3 := HLK.out w3 HK3.out
  have HN3 := Lib.hid (HN.out w3)
  clear HN l1 HS HST HLN HSK HLK HL
  go_wp2_with (go_at_call 79; refine HN3.out.mono ?_; rintro e4 w4 ⟨n, rfl, hb4⟩; have HK4 := Lib.hid (HK3.out.keep hb4); have HU4 := Lib.hid (HU3.out.trans (Upd.below hb4)); clear hb4)
  (try simp only [Exit.inBlock, Exit.then]); first | (refine bodyPost_ret (results_none rfl _ _ _) rfl ?_) | (refine bodyPost_end (results_none rfl _ _ _) rfl ?_)
  exact ⟨rfl, HK4.out, HU4.out⟩
end
end Go.Proofs.YtmdjkoiglghipaaGreatDoor
namespace Go.Proofs.YtmdjkoiglghipaaGreatDoor
open Go.RowKit
set_option linter.unusedVariables false
set_option linter.unusedSimpArgs false
theorem exitP_is {w : World} {b p : Nat} {c : Int} {t : ProcLaw.T} (h : ProcLaw.TabAt w b t) (hp : ProcLaw.alive t p) (p1 : p ≠ 1) :
    Calls Tryz.prog 80 #[.pointer (some ⟨b, 0, none⟩), .int .i64 p, .int .i64 c] w fun e w' => e = .returned (.tuple #[.int .i64 (ProcLaw.ended t p (bits .and .i64 c 255) p).par, .int .i64 0]) ∧ Upd (fun k => k = b) w w' ∧ ProcLaw.TabAt w' b (ProcLaw.ended t p (bits .and .i64 c 255)) := by
  refine (ProcLaw.exit_is p c h).mono ?_
  rintro e w' ⟨r, en, t', rfl, hu, ht, ⟨_, _, q⟩ | ⟨e0, q, hq, _, _, ht', hr⟩⟩
  · rcases q with q | q
    · exact absurd (ProcLaw.livR_alive hp) q
    · exact absurd (by omega) p1
  · have : q = p := by omega
    subst this
    subst ht'
    rw [hr, e0]
    exact ⟨rfl, hu, ht⟩
theorem MS.dropped_mB {m m' : MS} {s : Int} {f : Int → Option (Nat × Int)} {left : Lit → Bool} (hpv : m'.pv.ownBlock = m.pv.ownBlock) (hpl : m'.pl = kept m f left) {M so j : Nat} (hj : mB M so (m.dropped m' s) j) : mB M so m j := by
  rcases hj with q | q | q | ⟨x, q⟩ | q
  · exact .inl q
  · exact .inr (.inl q)
  · exact .inr (.inr (.inl (by rw [← hpv]; exact q)))
  · refine .inr (.inr (.inr (.inl ⟨x, ?_⟩)))
    unfold MS.dropped at q
    simp only at q
    split at q
    · cases q
    · exact q
  · refine .inr (.inr (.inr (.inr ?_)))
    have q : j ∈ m'.pl := q
    rw [hpl] at q
    exact (List.mem_filter.1 q).1
/-- the kernel while it serves: from one state to another -/
structure KG (s0 : KSt) (k : KC) (w w1 : World) (s : KSt) : Prop where
  kt : KT w1 k s
  up : Upd (fun j => s0.tag j ≠ 0) w w1
  far : ∀ j, s.tag j ≠ 0 → s0.tag j ≠ 0 ∨ w.heap.size ≤ j
section
variable {w w1 w2 : World} {k : KC} {s0 s s' : KSt}
theorem KT.start (h : KT w k s) : KG s k w w s := ⟨h, Upd.refl _ _, fun _ e => .inl e⟩
theorem KG.step {S : Nat → Prop} (h : KG s0 k w w1 s) (hk : KT w2 k s') (hu : Upd S w1 w2) (hS : ∀ j, S j → s.tag j ≠ 0) (hf : ∀ j, s'.tag j ≠ 0 → s.tag j ≠ 0 ∨ w1.heap.size ≤ j) : KG s0 k w w2 s' :=
  ⟨hk, h.up.trans' hu (fun i hi q => (h.far i (hS i q)).elim id (fun e => by omega)), fun j hj => (hf j hj).elim (h.far j) (fun e => .inr (Nat.le_trans h.up.size e))⟩
theorem KG.keep (h : KG s0 k w w1 s) (hb : Below w1.heap.size w1 w2) : KG s0 k w w2 s := h.step (S := fun _ => False) (h.kt.keep hb) (Upd.below hb) (fun _ e => e.elim) (fun _ e => .inl e)
end
def tskZ : Array Value := #[.int .i64 0, .int .u32 0, .int .u32 0, .int .u32 0, .int .u32 0, .int .u32 0, .int .u32 0, .int .u32 0, .int .u32 0, .int .u32 0, .int .i64 0, .int .i64 0, .int .i64 0, .slice none 0 0, .int .i64 0, .int .i64 0, .int .i64 0, .slice none 0 0, .slice none 0 0, .int .i64 0, .int .i64 0, .int .i64 0, .int .i64 0, .int .i64 0, .int .i64 0, .int .i64 0, .int .i64 0, .int .i64 0, .int .i64 0, .int .i64 0, .int .i64 0, .int .i64 0, .int .i64 0, .int .i64 0, .int .i64 0, .int .i64 0, .int .i64 0, .bool false]
theorem bd_tsk (ps : Array (Nat × Value)) : Instr.build 66 ps = bdR 66 ps := rfl
theorem bd_tsk0 (w : World) : (bdR 66 #[]).run Tryz.prog w = .ok (.agg tskZ) w := by kernel_rfl
theorem tskZ_size : tskZ.size = 38 := by kernel_rfl
theorem tskZ_one : tskZ.all (·.oneCell') = true := by kernel_rfl
section
variable {w0 w : World} {k : KC} {s : KSt} {p q i b : Nat} {s1 code : Int} {T : KSt → Int → Int → Int → Prop}
attribute [local go_sem ↓] st_tsk bd_tsk
set_option maxRecDepth 100000 in
set_option maxHeartbeats 1000000 in
theorem kexit_is (h : KT w0 k s) (hp : ProcLaw.alive s.t p) (p1 : p ≠ 1) (hsp : s.c (8 + p * 38) = .int .i64 s1) (hs : s.m.S s1 = some b) (hwf : (Lit.int .i64 s1).wf = true) (hlo : Lone (s.m.F b)) (hpl : ∀ k g r, s.m.F b k = some (g, r) → g ∈ s.m.pl ∧ s.m.u g = 1) (hll : s.m.pl.length ≤ 100000)
    (hfd : ∀ j, j < 8 → s.fd (p * 8 + j) = 0) (hid : idG s.l p = some i) (hcw : s.cw p = none)
    (hq : (ProcLaw.ended s.t p (bits .and .i64 code 255) p).par = q) (hqp : q ≠ p) (q1 : 1 ≤ q) (q16 : q ≤ 16) (hqs : (ProcLaw.ended s.t p (bits .and .i64 code 255) q).st = 1) (hql : s.c (8 + q * 38 + 37) = .bool false) (hqg : ∀ j, j < 18 → s.c (8 + q * 38 + 19 + j) = .int .i64 0)
    (hT : ∀ m' left (c' : Nat → Value) tag' ad' cap', (∀ kl, left kl = false) → m'.pl = kept s.m (s.m.F b) left → m'.nS = s.m.nS → m'.F = s.m.F → m'.nF = s.m.nF → m'.h = s.m.h → (∀ g, g ∈ m'.pl → m'.u g = s.m.u g) → (∀ j, (j < 8 + p * 38 ∨ 8 + p * 38 + 38 ≤ j) → c' j = s.c j) → T { tag := tag', c := c', t := ProcLaw.ended s.t p (bits .and .i64 code 255), fs := s.fs, fd := s.fd, ad := ad', cap := cap', l := leaveL s.l i 1, m := s.m.dropped m' s1, cw := s.cw } 0 0 0) :
    SpecE w0 (KOut w0.heap.size k s.tag T) 42 #[.pointer (some ⟨k.K, 0, none⟩), .int .i64 p, .int .i64 code] := by
  intro w h0
  obtain ⟨pp1, pp16, pst⟩ := hp
  have hk := h.keep h0
  have i17 : (p : Int) < 17 := by omega
  have HEX := Lib.hid (exitP_is (c := code) hk.pr ⟨pp1, pp16, pst⟩ p1)
  rw [hq] at HEX
  have q7 : w.cell? ⟨k.K, 7, none⟩ = some (.pointer (some ⟨k.Pr, 0, none⟩)) := by rw [hk.kr.cell (by decide), hk.c7]
  have HS := Lib.hid hk.start
  have HH := Lib.hid h
  have H0 := Lib.hid h0
  have HM := Lib.hid (And.intro hs (And.intro hwf (And.intro hlo (And.intro hpl hll))))
  have HFD := Lib.hid (And.intro hfd (And.intro hid hcw))
  have HQ := Lib.hid (And.intro hqp (And.intro q1 (And.intro q16 (And.intro hqs (And.intro hql hqg)))))
  have HSP := Lib.hid hsp
  have HT := Lib.hid hT
  clear h h0 hk hs hwf hlo hpl hll hfd hid hcw hq hqp hqs hql hqg hsp hT pst q1 q16
  go_enter Tryz.func42, Tryz.ntmps42
  go_upto_region 5 with (first | (go_at_call 80; refine HEX.out.mono ?_; rintro e1 w1 ⟨rfl, hu1, ht1⟩; have hk1 := HS.out.kt.procs ht1 hu1; have HS1 := Lib.hid (HS.out.step hk1 hu1 (fun j e => by rw [e, HS.out.kt.tPr]; decide) (fun j e => .inl e)); have q6 : w1.cell? ⟨k.K, 6, none⟩ = some (.pointer (some ⟨k.Fi, 0, none⟩)) := (by rw [HS1.out.kt.kr.cell (by decide), HS1.out.kt.c6]); have HDR := Lib.hid (OpenLaw.dropE_is HS1.out.kt.fi pp1 pp16 HFD.out.1); clear hk1 hu1 ht1) | (go_at_call 81; refine HDR.out.mono ?_; rintro e2 w2 ⟨rfl, hb2⟩; have HS2 := Lib.hid (HS1.out.keep hb2); clear hb2))
  clear q7 q6 HEX HDR HS1 HS
  go_wp2_with fail
  refine wp_loop_rounds 1 ?_
  rw [rounds_succ]
  go_upto_region 10 with fail
  have HDM := Lib.hid (dropG_is (HS2.out.kt.me.keep (Below.refl _ _).drew) HM.out.1 HM.out.2.1 HM.out.2.2.1 HM.out.2.2.2.1 HM.out.2.2.2.2)
  have q1 : w2.cell? ⟨k.K, 1, none⟩ = some (.pointer (some ⟨k.M, 0, none⟩)) := by rw [HS2.out.kt.kr.cell (by decide), HS2.out.kt.c1]
  have q8 : w2.cell? ⟨k.K, 8 + p * 38, none⟩ = some (.int .i64 s1) := by rw [HS2.out.kt.kr.cell (by omega), HSP.out]
  go_region_held3 (fun wx => wx.cell? ⟨k.K, 1, none⟩ = some (.pointer (some ⟨k.M, 0, none⟩)) ∧ wx.cell? ⟨k.K, 8 + p * 38, none⟩ = some (.int .i64 s1)) (first | exact ⟨q1, q8⟩ | exact hS3 | assumption)
    ((go_at_call 83; (with_reducible refine HDM.out.mono ?_); rintro e3 w3 ⟨rfl, m', left, hleft, _, hm3, hpv, hpl3, hnS, hF, hnF, hd, hh, hu', hu3⟩; have hk3 := (HS2.out.kt.keep (Below.refl _ _).drew).mem hm3 hu3 (fun j e => .inl (MS.dropped_mB hpv hpl3 e)); have HS3 := Lib.hid (HS2.out.step hk3 ((Upd.drew w2).trans hu3) (fun j e => by rw [HS2.out.kt.tM j e]; decide) (fun j e => tg_ne e)); have hS3 := And.intro ((HS3.out.kt.kr.cell (j := 1) (by decide)).trans (congrArg some HS3.out.kt.c1)) ((HS3.out.kt.kr.cell (j := 8 + p * 38) (by omega)).trans (congrArg some HSP.out)); have HM3 := Lib.hid (And.intro hleft (And.intro hpl3 (And.intro hnS (And.intro hF (And.intro hnF (And.intro hh hu')))))); clear hk3 hm3 hpv hu3 hleft hpl3 hnS hF hnF hd hh hu'))
  clear q1 q8 hS3 HDM HM
  have q4 : w3.cell? ⟨k.K, 4, none⟩ = some (.pointer (some ⟨k.R, 0, none⟩)) := by rw [HS3.out.kt.kr.cell (by decide), HS3.out.kt.c4]
  have HLV := Lib.hid (leaveG_is HS3.out.kt.ru HFD.out.2.1 (by decide))
  go_upto_region 13 with (first | (go_at_call 84; refine HLV.out.mono ?_; rintro e4 w4 ⟨rfl, ⟨T4, cp4, hr4, hT4⟩, hu4⟩; have hk4 := HS3.out.kt.run hr4 hu4 (fun j e => hT4.elim (fun q => .inl (by rw [q]; exact e)) (fun q => e.elim (fun e => .inl (.inl e)) (fun ⟨a, e1, e2⟩ => .inr (by injection e1 with e1; rw [e2, ← e1]; exact q)))); have HS4 := Lib.hid (HS3.out.step hk4 hu4 (fun j e => by rw [HS3.out.kt.tR j e]; decide) (fun j e => tg_ne e)); have q5 : w4.cell? ⟨k.K, 5, none⟩ = some (.pointer (some ⟨k.Wh, 0, none⟩)) := (by rw [HS4.out.kt.kr.cell (by decide), HS4.out.kt.c5]); have HWO := Lib.hid (wout0_is HS4.out.kt.wh p); clear hk4 hr4 hu4 hT4) | (go_at_call 85; refine HWO.out.mono ?_; rintro e5 w5 ⟨rfl, hb5⟩; have HS5 := Lib.hid (HS4.out.keep hb5); clear hb5))
  clear q4 q5 HLV HWO HS4 HS3
  have hbd := bd_tsk0
  have hst := HS5.out.kt.kr.stT (o := 8 + p * 38) (by omega) tskZ_size tskZ_one
  have HKP := Lib.hid (HS5.out.kt.kr.putT (C := tskZ) (o := 8 + p * 38) (by omega) tskZ_size)
  have HUP : Hid (Upd (fun j => j = k.K) w5 (w5.setRow k.K (putA (kerA s.c) (8 + p * 38) tskZ.toList))) := Lib.hid (Upd.setRow _ _ rfl)
  generalize w5.setRow k.K (putA (kerA s.c) (8 + p * 38) tskZ.toList) = w6 at *
  go_upto_region 14 with fail
  have HC' : Hid (∃ c', c' = fun j => if 8 + p * 38 ≤ j ∧ j < 8 + p * 38 + 38 then (tskZ[j - (8 + p * 38)]?).getD undef else s.c j) := Lib.hid ⟨_, rfl⟩
  obtain ⟨c', hc'⟩ := HC'.out
  rw [← hc'] at HKP
  have HCO : Hid (∀ j, (j < 8 + p * 38 ∨ 8 + p * 38 + 38 ≤ j) → c' j = s.c j) := Lib.hid fun j hj => by rw [hc']; exact if_neg (by omega)
  have HK6 := Lib.hid (HS5.out.kt.cells (c' := c') (cw' := s.cw) (tag' := _) HKP.out HUP.out (fun j hj => HCO.out j (.inl (by omega))) (fun _ _ => rfl) (fun j hj => HS5.out.kt.tz j (Nat.le_trans HUP.out.size hj)) (fun p' b' hb' => by
    obtain ⟨⟨cp, h1⟩, h2, h3, h4⟩ := HS5.out.kt.cw p' b' hb'
    have hne : p' ≠ p := fun e => by rw [e, HFD.out.2.2] at hb'; cases hb'
    have hbK : b' ≠ k.K := fun e => by rw [e, HS5.out.kt.tK] at h4; exact absurd h4 (by decide)
    exact ⟨⟨cp, by rw [HCO.out _ (by omega)]; exact h1⟩, (HUP.out.cell h3 hbK).trans h2, Nat.lt_of_lt_of_le h3 HUP.out.size, h4⟩))
  have HS6 := Lib.hid (HS5.out.step HK6.out HUP.out (fun j e => by rw [e, HS5.out.kt.tK]; decide) (fun j e => .inl e))
  clear hbd hst HKP HUP HS5 HC' hc'
  have HSD := Lib.hid (sendP_is (q := q) HS6.out.kt ⟨HQ.out.2.1, HQ.out.2.2.1, HQ.out.2.2.2.1, (HCO.out _ (by have := HQ.out.1; omega)).trans HQ.out.2.2.2.2.1, fun j hj => (HCO.out _ (by have := HQ.out.1; omega)).trans (HQ.out.2.2.2.2.2 j hj)⟩)
  go_wp2_with (go_at_call 86; refine HSD.out.mono ?_; rintro e7 w7 ⟨rfl, hk7, hu7⟩; have HS7 := Lib.hid (HS6.out.step hk7 hu7 (fun j e => by rw [e, HS6.out.kt.tK]; decide) (fun j e => .inl e)); clear hk7 hu7)
  go_ret
  refine ⟨0, rfl, HS7.out.up.mono (fun j _ e => HH.out.lt e), _, 0, 0, 0, HS7.out.kt, fun j hj => HS7.out.far j hj, rfl, ?_, HS7.out.up⟩
  exact HT.out m' left c' _ _ _ HM3.out.1 HM3.out.2.1 HM3.out.2.2.1 HM3.out.2.2.2.1 HM3.out.2.2.2.2.1 HM3.out.2.2.2.2.2.1 HM3.out.2.2.2.2.2.2 HCO.out
end
end Go.Proofs.YtmdjkoiglghipaaGreatDoor
namespace Go.Proofs.YtmdjkoiglghipaaGreatDoor
open Go.RowKit
set_option linter.unusedVariables false
set_option linter.unusedSimpArgs false
/-- the memory at first: no page, one space -/
def mS0 (sp : Nat) : MS := ⟨.slice none 0 0, [], 1, fun s => if s = 1 then some sp else none, fun _ => 0, fun _ _ => none, fun _ _ => 0, fun _ => 0, fun _ => false⟩
/-- the state at first -/
def sS0 (c : Nat → Value) (tag : Nat → Nat) (T cc sp wb : Nat) : KSt := ⟨tag, c, ProcLaw.start, fun _ => OpenLaw.f0, fun _ => 0, some ⟨T, 0, none⟩, cc, [⟨1, 0, true, 0⟩], mS0 sp, fun p => if p = 1 then some wb else none⟩
theorem mem0 {w : World} {M so sp : Nat} (mm : Row w M 84 #[.int .i64 64, .int .i64 64, .int .i64 0, .slice none 0 0, .map (some so)]) (om : OMap w so 1 (fun k => if k = 1 then some sp else none)) (im : IMap w sp 0 (fun _ => none)) (h1 : so < M) (h2 : M < sp) : MemG w M so 64 64 (mS0 sp) := by
  refine ⟨mm.cell 0, mm.cell 1, ⟨0, mm.cell 2⟩, mm.cell 3, mm.cell 4, mm.fz, mm.lt, World.ownsRow_nil _ _ _ _, om, fun s b hs => ?_, fun g hg => (by cases hg), by omega, fun b hb => (by cases hb), fun s b hs => ?_, fun g hg => (by cases hg), fun s s' b hs hs' => ?_, List.nodup_nil⟩
  · simp only [mS0] at hs ⊢
    split at hs
    · injection hs with hs; subst hs; exact im
    · cases hs
  · simp only [mS0] at hs ⊢
    split at hs
    · injection hs with hs; subst hs; exact ⟨by omega, by omega, fun e => by cases e⟩
    · cases hs
  · simp only [mS0] at hs hs'
    split at hs
    · split at hs'
      · omega
      · cases hs'
    · cases hs
theorem KS.toKT {w : World} {B K P Wh Fi Pr R M so sp : Nat} {c : Nat → Value} (h : KS w B K P Wh Fi Pr R M so sp c) : ∃ tag T cc wb, KT w ⟨K, Wh, Fi, Pr, R, M, so⟩ (sS0 c tag T cc sp wb) ∧ ∀ j, tag j ≠ 0 → B ≤ j := by
  obtain ⟨T, cc, hru, hspT⟩ := h.ru
  obtain ⟨wb, hc63, hwb, hspw⟩ := h.wd
  obtain ⟨T', C, e, hT⟩ := hru.rows (by decide)
  injection e with e
  injection e with e
  subst e
  have hTw : T ≠ wb := fun e => by
    have r1 := hT.row
    have r2 := hwb
    rw [e] at r1
    have r3 : some (Obj.cells C 201) = some (Obj.cells #[.int .i64 1] 3) := r1.symm.trans r2
    injection r3 with r3
    injection r3 with _ r4
    exact absurd r4 (by decide)
  have b := h.kp.b
  have o := h.or
  refine ⟨fun j => if j = K then 1 else if j = Wh then 2 else if j = Fi then 3 else if j = Pr then 4 else if j = R ∨ j = T then 5 else if j = M ∨ j = so ∨ j = sp then 6 else if j = wb then 7 else 0, T, cc, wb, ⟨h.kr, h.c1, h.c4, h.c5, h.c6, h.c7, h.kp.wh, h.kp.fi, h.kp.pr, hru, mem0 h.mm h.om h.im o.2.2.1 o.2.2.2, fun p q hq => ?_, ?_, ?_, ?_, ?_, fun j hj => ?_, fun j hj => ?_, fun j hj => ?_⟩, fun j hj => ?_⟩
  · simp only [sS0] at hq
    split at hq
    · rename_i hp
      injection hq with hq
      subst hp
      subst hq
      refine ⟨⟨1, hc63⟩, by rw [hwb.cell]; rfl, hwb.lt, ?_⟩
      simp only [sS0]
      rw [if_neg (by omega), if_neg (by omega), if_neg (by omega), if_neg (by omega), if_neg (by omega), if_neg (by omega), if_pos trivial]
    · cases hq
  · simp only [sS0]; rw [if_pos trivial]
  · simp only [sS0]; rw [if_neg (by omega), if_pos trivial]
  · simp only [sS0]; rw [if_neg (by omega), if_neg (by omega), if_pos trivial]
  · simp only [sS0]; rw [if_neg (by omega), if_neg (by omega), if_neg (by omega), if_pos trivial]
  · have hj : j = R ∨ j = T := by
      rcases hj with q | ⟨a, q, q2⟩
      · exact .inl q
      · simp only [sS0] at q
        injection q with q
        subst q
        exact .inr q2
    simp only [sS0]
    rw [if_neg (by omega), if_neg (by omega), if_neg (by omega), if_neg (by omega), if_pos hj]
  · have hj : j = M ∨ j = so ∨ j = sp := by
      rcases hj with q | q | q | ⟨x, q⟩ | q
      · exact .inl q
      · exact .inr (.inl q)
      · cases q
      · simp only [sS0, mS0] at q
        split at q
        · injection q with q; exact .inr (.inr q.symm)
        · cases q
      · cases q
    have n : ¬ (j = R ∨ j = T) := by omega
    simp only [sS0]
    rw [if_neg (by omega), if_neg (by omega), if_neg (by omega), if_neg (by omega), if_neg n, if_pos hj]
  · have l1 := h.kr.lt
    have l2 := hru.lt
    have l3 := hT.row.lt
    have l4 := h.mm.lt
    have l5 := hwb.lt
    obtain ⟨D, ⟨es, ck, hb, _⟩, _⟩ := h.im
    have l6 := (Array.getElem?_eq_some_iff.1 hb).1
    simp only [sS0]
    rw [if_neg (by omega), if_neg (by omega), if_neg (by omega), if_neg (by omega), if_neg (by omega), if_neg (by omega), if_neg (by omega)]
  · rcases Nat.lt_or_ge j B with q | q
    · exfalso
      apply hj
      simp only
      rw [if_neg (by omega), if_neg (by omega), if_neg (by omega), if_neg (by omega), if_neg (by omega), if_neg (by omega), if_neg (by omega)]
    · exact q
end Go.Proofs.YtmdjkoiglghipaaGreatDoor
namespace Go.Proofs.YtmdjkoiglghipaaGreatDoor
open Go.RowKit
set_option linter.unusedVariables false
set_option linter.unusedSimpArgs false
def t1 : ProcLaw.T := ProcLaw.forked ProcLaw.start 2 1
def l0 : List Tk := [⟨1, 0, true, 0⟩]
def l1 : List Tk := [⟨1, 0, true, 0⟩, ⟨2, 0, true, -1⟩]
theorem l1_is : enterL l0 2 1 = l1 := rfl
/-- a task that is awake and has no signal -/
def Calm (c : Nat → Value) (p : Nat) : Prop := c (8 + p * 38 + 37) = .bool false ∧ ∀ j, j < 18 → c (8 + p * 38 + 19 + j) = .int .i64 0
theorem Calm.other {c c' : Nat → Value} {p q : Nat} (h : Calm c q) (hc : ∀ j, (j < 8 + p * 38 ∨ 8 + p * 38 + 38 ≤ j) → c' j = c j) (hn : q ≠ p) : Calm c' q := ⟨(hc _ (by omega)).trans h.1, fun j hj => (hc _ (by omega)).trans (h.2 j hj)⟩
theorem Calm.awake {s : KSt} {p : Nat} (h : Calm s.c p) (h1 : 1 ≤ p) (h2 : p ≤ 16) (hl : (s.t p).st = 1) : Awake s p := ⟨h1, h2, hl, h.1, h.2⟩
/-- behind the fork -/
structure P1 (s : KSt) (nb : Nat) : Prop where
  c1 : Calm s.c 1
  c2 : Calm s.c 2
  sp : s.c 84 = .int .i64 2
  fd : ∀ j, j < 8 → s.fd (2 * 8 + j) = 0
  cw : s.cw 2 = none
  t : s.t = t1
  l : s.l = l1
  S : s.m.S 2 = some nb
  F : ∀ k, s.m.F nb k = none
  nF : s.m.nF nb = 0
  pl : s.m.pl = []
/-- behind the map of n pages -/
structure P2 (n : Nat) (s : KSt) (nb : Nat) : Prop where
  c1 : Calm s.c 1
  c2 : Calm s.c 2
  sp : s.c 84 = .int .i64 2
  fd : ∀ j, j < 8 → s.fd (2 * 8 + j) = 0
  cw : s.cw 2 = none
  t : s.t = t1
  l : s.l = l1
  S : s.m.S 2 = some nb
  F : ∀ k, s.m.F nb k = if 3 ≤ k ∧ k < 3 + (n : Int) then (s.m.pl[(k - 3).toNat]?).map (fun g => (g, 3)) else none
  ln : s.m.pl.length = n
  u : ∀ g, g ∈ s.m.pl → s.m.u g = 1
  h : ∀ g, g ∈ s.m.pl → s.m.h g = true
/-- behind the end of the child -/
structure P3 (t : ProcLaw.T) (s : KSt) : Prop where
  c1 : Calm s.c 1
  t : s.t = t
  pl : s.m.pl = []
theorem kz_one (j : Nat) (h : j < 655) : (kz j).oneCell' = true := by
  have ha : Tryz.zeroCells75.all (·.oneCell') = true := by kernel_rfl
  rw [Array.all_eq_true] at ha
  unfold kz
  rw [Array.getElem?_eq_getElem (by rw [kz_size]; exact h)]
  exact ha j (by rw [kz_size]; exact h)
theorem kz_sigs (j : Nat) (hj : j < 18) : kz (65 + j) = .int .i64 0 := by
  have h := congrArg (fun l => l[j]?) kz_sig
  simp only [List.getElem?_map, List.getElem?_replicate, if_pos hj, List.getElem?_range hj, Option.map_some] at h
  injection h
section
variable {w : World} {B K P Wh Fi Pr R M so sp : Nat} {c : Nat → Value}
theorem KS.calm (h : KS w B K P Wh Fi Pr R M so sp c) : Calm c 1 := ⟨h.sl, fun j hj => (h.sg j hj).trans (kz_sigs j hj)⟩
theorem KS.one (h : KS w B K P Wh Fi Pr R M so sp c) : ∀ j, j < 38 → (c (8 + 1 * 38 + j)).oneCell' = true := by
  intro j hj
  obtain ⟨h0, h1, h2, h3, h4, h5, h6⟩ := h.tk
  obtain ⟨b, hb, _⟩ := h.wd
  by_cases e : j = 0
  · subst e; rw [show 8 + 1 * 38 + 0 = 46 by rfl, h.t0]; rfl
  by_cases e1 : j = 17
  · subst e1; rw [show 8 + 1 * 38 + 17 = 63 by rfl, hb]; rfl
  by_cases e2 : 10 ≤ j ∧ j ≤ 16
  · have : j = 10 ∨ j = 11 ∨ j = 12 ∨ j = 13 ∨ j = 14 ∨ j = 15 ∨ j = 16 := by omega
    rcases this with rfl | rfl | rfl | rfl | rfl | rfl | rfl
    · rw [show 8 + 1 * 38 + 10 = 56 by rfl, h0]; rfl
    · rw [show 8 + 1 * 38 + 11 = 57 by rfl, h1]; rfl
    · rw [show 8 + 1 * 38 + 12 = 58 by rfl, h2]; rfl
    · rw [show 8 + 1 * 38 + 13 = 59 by rfl, h3]; rfl
    · rw [show 8 + 1 * 38 + 14 = 60 by rfl, h4]; rfl
    · rw [show 8 + 1 * 38 + 15 = 61 by rfl, h5]; rfl
    · rw [show 8 + 1 * 38 + 16 = 62 by rfl, h6]; rfl
  · rw [h.ck _ (by omega) (by omega) (by omega)]
    exact kz_one _ (by omega)
end
theorem may0 (sp : Nat) : MayFork (mS0 sp) 1 sp 2 := by
  refine ⟨rfl, by decide, by decide, by decide, rfl, fun j h1 h2 => ⟨sp, ?_⟩, (by show 1 < 1000000; decide), (fun _ _ _ _ _ h _ => nomatch h), (fun _ _ _ h => nomatch h), (by show 0 < 100000; decide)⟩
  obtain rfl : j = 1 := by omega
  rfl
end Go.Proofs.YtmdjkoiglghipaaGreatDoor
