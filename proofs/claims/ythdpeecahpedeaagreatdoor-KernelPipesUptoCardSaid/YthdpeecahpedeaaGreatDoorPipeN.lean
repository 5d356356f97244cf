/- The walks of the kernel's pipe and gone. The walks of the kernel's gone, read, write at one pipe. The walks of the kernel's read and write at one pipe. -/
import Derived.Test.YthdpeecahpedeaaGreatDoorPipeK
import Derived.Deep.RegionHeld3
namespace Go.Proofs.YthdpeecahpedeaaGreatDoor
open Go.RowKit
set_option linter.unusedVariables false
set_option linter.unusedSimpArgs false
def tk : OpenLaw.F := ⟨2, 1, 1, false, 0, 1⟩
def gv : OpenLaw.F := ⟨3, 1, 2, false, 0, 1⟩
def pf0 : Nat → OpenLaw.F := fun _ => OpenLaw.f0
def pd0 : Nat → Nat := fun _ => 0
def pf1 : Nat → OpenLaw.F := OpenLaw.updF pf0 0 tk
def pd1 : Nat → Nat := OpenLaw.updN pd0 8 1
def pf2 : Nat → OpenLaw.F := OpenLaw.updF pf1 1 gv
def pd2 : Nat → Nat := OpenLaw.updN pd1 9 2
def pf3 : Nat → OpenLaw.F := OpenLaw.updF pf2 1 { gv with n := gv.n - 1 }
def pd3 : Nat → Nat := OpenLaw.updN pd2 9 0
section
variable {w0 w w' : World} {K Pr P Fi : Nat} {c : Nat → Value} {s : St}
theorem openT_is (h : OpenLaw.OTab w Fi pf0 pd0) : Calls Tryz.prog 150 #[.pointer (some ⟨Fi, 0, none⟩), .int .i64 1, .agg #[.int .i64 2, .int .i64 1, .int .i64 1, .bool false, .int .i64 0]] w fun e w' => e = .returned (.tuple #[.int .i64 0, .int .i64 0]) ∧ OpenLaw.KB Fi w w' ∧ OpenLaw.OTab w' Fi pf1 pd1 := by
  refine (OpenLaw.open_is (p := 1) (kd := 2) (id := 1) (may := 1) (by decide) (by decide) h (by decide) (by decide) (by decide) (by decide) (by decide)).mono ?_
  rintro e w' ⟨hk, ⟨j, k, hj, hj0, hjm, hk32, hk0, hkm, rfl, ho⟩ | ⟨hn, -⟩⟩
  · obtain rfl : j = 0 := by
      rcases Nat.eq_zero_or_pos j with q | q
      · exact q
      · exact absurd rfl (hjm 0 q)
    obtain rfl : k = 0 := by
      rcases Nat.eq_zero_or_pos k with q | q
      · exact q
      · exact absurd rfl (hkm 0 q)
    exact ⟨rfl, hk, ho⟩
  · rcases hn with q | q
    · exact absurd rfl (q 0 (by decide))
    · exact absurd rfl (q 0 (by decide))
theorem openG_is (h : OpenLaw.OTab w Fi pf1 pd1) : Calls Tryz.prog 150 #[.pointer (some ⟨Fi, 0, none⟩), .int .i64 1, .agg #[.int .i64 3, .int .i64 1, .int .i64 2, .bool false, .int .i64 0]] w fun e w' => e = .returned (.tuple #[.int .i64 1, .int .i64 0]) ∧ OpenLaw.KB Fi w w' ∧ OpenLaw.OTab w' Fi pf2 pd2 := by
  refine (OpenLaw.open_is (p := 1) (kd := 3) (id := 1) (may := 2) (by decide) (by decide) h (by decide) (by decide) (by decide) (by decide) (by decide)).mono ?_
  have e8 : pd1 8 = 1 := rfl
  have e9 : pd1 9 = 0 := rfl
  have n0 : (pf1 0).n = 1 := rfl
  have n1 : (pf1 1).n = 0 := rfl
  rintro e w' ⟨hk, ⟨j, k, hj, hj0, hjm, hk32, hk0, hkm, rfl, ho⟩ | ⟨hn, -⟩⟩
  · obtain rfl : j = 1 := by
      rcases Nat.lt_trichotomy j 1 with q | q | q
      · obtain rfl : j = 0 := by omega
        exact absurd (hj0.symm.trans e8) (by decide)
      · exact q
      · exact absurd e9 (hjm 1 q)
    obtain rfl : k = 1 := by
      rcases Nat.lt_trichotomy k 1 with q | q | q
      · obtain rfl : k = 0 := by omega
        exact absurd (hk0.symm.trans n0) (by decide)
      · exact q
      · exact absurd n1 (hkm 1 q)
    exact ⟨rfl, hk, ho⟩
  · rcases hn with q | q
    · exact absurd e9 (q 1 (by decide))
    · exact absurd n1 (q 1 (by decide))
def TPipe (B0 : Nat) (s : St) (dl : List Int) (e a b : Int) : Prop := B0 ≤ s.O ∧ s.v = .slice none 0 0 ∧ s.l = [] ∧ s.e1 = 1 ∧ s.fs = pf2 ∧ s.fd = pd2 ∧ e = 0 ∧ a = 0 ∧ b = 1
attribute [local go_sem ↓] bd_ans ld_ans st_ans
set_option maxRecDepth 100000 in
set_option maxHeartbeats 1000000 in
theorem kpipe_is (h0 : Below w0.heap.size w0 w) (hk : KB4 w K Pr P Fi c) (hf : OpenLaw.OTab w Fi pf0 pd0) (hp : Row w P 151 pipA) (ho : Old w0.heap.size K Pr P Fi) :
    Calls Tryz.prog 74 #[.pointer (some ⟨K, 0, none⟩), .int .i64 1] w (Res w0 (POut w0.heap.size (fun k => k = P ∨ k = Fi) K Pr P Fi c (TPipe w0.heap.size)) w) := by
  have hal := Go.Joins.below_alloc1 w (.cells ansZ 33)
  have hr := row_new w 33 ansZ
  have hk1 := hk.keep hal
  have q3 := hk1.q3
  have HK := Lib.hid hk1
  have HF := Lib.hid (hf.keep hal)
  have hp1 := hp.keep hal
  have HM := Lib.hid (pmake_is hp1)
  have HR := Lib.hid hr
  have HAL := Lib.hid hal
  have H0 := Lib.hid h0
  have HO := Lib.hid ho
  have HW := Lib.hid (show w.heap.size < (w.alloc (.cells ansZ 33)).heap.size from hr.lt)
  clear hal hr hk hf hp hk1 hp1 h0 ho
  have hz : ansZ = #[.int .i64 0, .int .i64 0, .int .i64 0, .slice none 0 0, .slice none 0 0, .int .i64 0, .int .i64 0, .int .i64 0, .int .i64 0, .int .i64 0, .int .i64 0] := rfl
  rw [hz] at q3 HK HF HM HAL HW
  have HR' : Hid (Row (w.alloc (.cells #[.int .i64 0, .int .i64 0, .int .i64 0, .slice none 0 0, .slice none 0 0, .int .i64 0, .int .i64 0, .int .i64 0, .int .i64 0, .int .i64 0, .int .i64 0] 33)) w.heap.size 33 ansZ) := HR
  clear hz HR
  go_enter Tryz.func74, Tryz.ntmps74
  go_upto_region 1 with fail
  generalize w.alloc (.cells #[.int .i64 0, .int .i64 0, .int .i64 0, .slice none 0 0, .slice none 0 0, .int .i64 0, .int .i64 0, .int .i64 0, .int .i64 0, .int .i64 0, .int .i64 0] 33) = w1 at *
  have hbd := bd_ab
  go_upto_region 4 with (go_at_call 151; refine HM.out.mono ?_; rintro e2 w2 ⟨rfl, hpi, hu⟩)
  have hk2 := HK.out.upd hu (by have := HK.out.n; omega) (by have := HK.out.n; omega)
  have hf2 := HF.out.upd hu (by have := HK.out.n; omega)
  have hr2 := HR'.out.upd hu (by have := HO.out.2.2.1; have := H0.out.size; omega)
  have HU2 := Lib.hid hu
  have HPI := Lib.hid hpi
  have HK2 := Lib.hid hk2
  have HR2 := Lib.hid hr2
  have HT := Lib.hid (openT_is hf2)
  have q6 := hk2.q6
  clear hu hpi hk2 hr2 hf2 HF HM HR' q3
  go_upto_region 9 with (go_at_call 150; refine HT.out.mono ?_; rintro e3 w3 ⟨rfl, hkb, hf3⟩)
  have u3 : Upd (fun k => k = P ∨ k = Fi) w1 w3 := (HU2.out.mono (fun _ _ e => .inl e)).trans (kb_upd hkb (.inr rfl))
  have v3 : Upd (fun k => k = Fi) w2 w3 := kb_upd hkb rfl
  have HU3 := Lib.hid u3
  have HV3 := Lib.hid v3
  have q6' := ((HK2.out.upd v3 (by have := HK2.out.n; omega) (by have := HK2.out.n; omega))).q6
  have HG := Lib.hid (openG_is hf3)
  clear u3 v3 hkb hf3 HT q6
  go_upto_region 15 with (go_at_call 150; refine HG.out.mono ?_; rintro e4 w4 ⟨rfl, hkb, hf4⟩)
  have v4 : Upd (fun k => k = Fi) w2 w4 := HV3.out.trans (kb_upd hkb rfl)
  have u4 : Upd (fun k => k = P ∨ k = Fi) w1 w4 := (HU3.out).trans (kb_upd hkb (.inr rfl))
  have hr4 := HR2.out.upd v4 (by have := HO.out.2.2.2; have := H0.out.size; omega)
  have hk4 := HK2.out.upd v4 (by have := HK2.out.n; omega) (by have := HK2.out.n; omega)
  have hO := HO.out
  unfold Old at hO
  have z0 := H0.out.size
  have z1 := HAL.out.size
  have zw := HW.out
  have hp4 : PSt w4 K Pr P Fi c ⟨w1.heap.size, .slice none 0 0, [], 1, pf2, pd2⟩ := ⟨hk4, hf4, HPI.out.upd v4 (by have := HK2.out.n; omega) (fun (e : w1.heap.size = Fi) => by omega) (by simp [Value.ownBlock]), by simp; omega, by simp [Value.ownBlock]⟩
  obtain ⟨X, hX⟩ : ∃ X, X = ansV 0 0 1 (.slice none 0 0) := ⟨_, rfl⟩
  have hs := hX ▸ ans_st hr4 (X := ansV 0 0 1 (.slice none 0 0)) rfl (ansV_one _ _ _ rfl)
  have HLD := Lib.hid (hX ▸ ans_ldV hr4 (X := ansV 0 0 1 (.slice none 0 0)) rfl)
  have hb1 := hbd w4 0 1
  rw [← hX] at hb1
  have u5 : Upd (fun k => k = w.heap.size) w4 (w4.setRow w.heap.size X) := Upd.setRow w4 X rfl
  have HP5 := Lib.hid (hp4.upd u5 (by omega) (by omega) (by omega) (by omega) (by simp; omega) (by simp [Value.ownBlock]))
  have HU5 : Hid (Upd (fun k => k < w0.heap.size) w (w4.setRow w.heap.size X)) := Lib.hid (((Upd.below HAL.out).trans (u4.mono (fun i _ e => by omega))).trans' u5 (fun i hi e => by omega))
  have HV5 : Hid (Upd (fun k => k = P ∨ k = Fi) w (w4.setRow w.heap.size X)) := Lib.hid (((Upd.below HAL.out).trans u4).trans' u5 (fun i hi e => by omega))
  have HX := Lib.hid hX
  clear hp4 hk4 hr4 u5 v4 u4 hX hbd hkb hf4 q6' hO
  generalize w4.setRow w.heap.size X = w5 at *
  go_wp2_with fail
  exact bodyPost_ret (v := .agg X) (by rw [results_cell1 rfl]; simp [asAddr, Result.andThen, HLD.out]) rfl ⟨X, rfl, by rw [HX.out]; rfl, by rw [HX.out]; exact ansV_one _ _ _ rfl, HU5.out, _, [], _, _, _, _, HP5.out, ⟨.inr z1, by simp [Value.ownBlock]⟩, OB.nil _ _, HX.out, ⟨Nat.le_trans z0 z1, rfl, rfl, rfl, rfl, rfl, rfl, rfl, rfl⟩, HV5.out⟩
end
end Go.Proofs.YthdpeecahpedeaaGreatDoor
namespace Go.Proofs.YthdpeecahpedeaaGreatDoor
open Go.RowKit
set_option linter.unusedVariables false
set_option linter.unusedSimpArgs false
theorem ld_thing (v : Value) : Instr.loadAt 156 v = ldR 156 v := rfl
theorem st_thing (p v : Value) : Instr.storeAt 156 p v = stR 156 p v := rfl
section
variable {w0 w w1 w4 : World} {K Pr P Fi : Nat} {c : Nat → Value} {s : St} {A : Array Value}
/-- an answer is stored, and that is the end -/
theorem res_end {S : Nat → Prop} {b : Nat} {e a r : Int} {d : Value} {dl : List Int} {T : St → List Int → Int → Int → Int → Prop} (hr : Row w4 b 33 ansZ) (hd1 : d.oneCell' = true) (hs : PSt w4 K Pr P Fi c s) (ho : Old w0.heap.size K Pr P Fi) (h0 : w0.heap.size ≤ w.heap.size) (hb : w.heap.size ≤ b) (hu : Upd S w w4) (hS : ∀ k, S k → k < w0.heap.size) (hO : s.O < w0.heap.size ∨ b < s.O) (hv : ∀ g, s.v.ownBlock = some g → g < w0.heap.size ∨ b < g) (hd : OB (b + 1) w4 d dl) (hT : T s dl e a r) :
    ∃ w5, (stR 33 (.pointer (some ⟨b, 0, none⟩)) (.agg (ansV e a r d))).run Tryz.prog w4 = .ok () w5 ∧ (loadVar 33 ⟨b, 0, none⟩).run Tryz.prog w5 = .ok (.agg (ansV e a r d)) w5 ∧ Res w0 (POut w0.heap.size S K Pr P Fi c T) w (.returned (.agg (ansV e a r d))) w5 := by
  unfold Old at ho
  have u5 : Upd (fun k => k = b) w4 (w4.setRow b (ansV e a r d)) := Upd.setRow w4 _ rfl
  refine ⟨_, ans_st hr (X := ansV e a r d) rfl (ansV_one _ _ _ hd1), ans_ldV hr (X := ansV e a r d) rfl, _, rfl, rfl, ansV_one _ _ _ hd1, (hu.mono (fun i _ q => hS i q)).trans' u5 (fun i hi q => by omega), s, dl, d, e, a, r, hs.upd u5 (by omega) (by omega) (by omega) (by omega) (fun q => by omega) (fun g hg q => by have := hv g hg; omega), ⟨?_, fun g hg => ?_⟩, ?_, rfl, hT, hu.trans' u5 (fun i hi q => by omega)⟩
  · omega
  · have := hv g hg
    omega
  · exact (hd.upd u5 (fun g hg q => hd.far (b := g) (by omega) hg)).base (by omega)
def closeS (s : St) : St := { s with e1 := 0 }
attribute [local go_sem ↓] ld_thing
set_option maxRecDepth 100000 in
set_option maxHeartbeats 1000000 in
theorem gone_is (h : PSt w K Pr P Fi c s) (he : s.e1 = 1) : Calls Tryz.prog 68 #[.pointer (some ⟨K, 0, none⟩), .agg #[.int .i64 3, .int .i64 1, .int .i64 2, .bool false, .int .i64 0]] w fun e w' => e = .returned (.tuple #[]) ∧ PSt w' K Pr P Fi c (closeS s) ∧ Upd (fun k => k = s.O) w w' := by
  have hal := Go.Joins.below_alloc1 w (.cells #[.int .i64 3, .int .i64 1, .int .i64 2, .bool false, .int .i64 0] 156)
  have hr := row_new w 156 #[.int .i64 3, .int .i64 1, .int .i64 2, .bool false, .int .i64 0]
  have h1 := h.keep hal
  have b0 := (hr.cell 0).trans (show (#[.int .i64 3, .int .i64 1, .int .i64 2, .bool false, .int .i64 0] : Array Value)[0]? = some (.int .i64 3) from rfl)
  have b1 := (hr.cell 1).trans (show (#[.int .i64 3, .int .i64 1, .int .i64 2, .bool false, .int .i64 0] : Array Value)[1]? = some (.int .i64 1) from rfl)
  have q3 := h1.k.q3
  have hpi := h1.pi
  rw [he] at hpi
  have HL := Lib.hid (pless_is (hpi.keep (Below.refl _ _).drew))
  have HPS := Lib.hid h1
  have HAL := Lib.hid hal
  have HOL := Lib.hid h.pi.ol
  have HLT := Lib.hid hr.lt
  clear h h1 hal hr he hpi
  go_enter Tryz.func68, Tryz.ntmps68
  go_upto_region 7 with fail
  generalize w.alloc (.cells #[.int .i64 3, .int .i64 1, .int .i64 2, .bool false, .int .i64 0] 156) = w1 at *
  go_region_held3 (fun wx => wx.cell? ⟨K, 3, none⟩ = some (.pointer (some ⟨P, 0, none⟩)) ∧ wx.cell? ⟨w.heap.size, 1, none⟩ = some (.int .i64 1)) (first | exact ⟨q3, b1⟩ | exact hS2 | assumption) ((go_at_call 142; (with_reducible refine HL.out.mono ?_); rintro e2 w2 ⟨rfl, hp2, hu2⟩; have hS2 : w2.cell? ⟨K, 3, none⟩ = some (.pointer (some ⟨P, 0, none⟩)) ∧ w2.cell? ⟨w.heap.size, 1, none⟩ = some (.int .i64 1) := ⟨(hu2.cell HPS.out.k.kq.kr.lt (fun e => HPS.out.n.1 e.symm)).trans q3, (hu2.cell HLT.out (fun e => by have := HOL.out; omega)).trans b1⟩; have HP2 := Lib.hid hp2; have HU2 := Lib.hid ((Upd.drew w1).trans hu2); clear hp2 hu2))
  go_wp2_with fail
  (try simp only [Exit.inBlock, Exit.then]); first | (refine bodyPost_ret (results_none rfl _ _ _) rfl ?_) | (refine bodyPost_end (results_none rfl _ _ _) rfl ?_)
  have n := HPS.out.n
  refine ⟨rfl, ⟨HPS.out.k.upd HU2.out (fun e => n.1 e.symm) (fun e => n.2.1 e.symm), HPS.out.ot.upd HU2.out (fun e => n.2.2 e.symm), HP2.out, n, HPS.out.nv⟩, (Upd.below HAL.out).trans HU2.out⟩
end
end Go.Proofs.YthdpeecahpedeaaGreatDoor
namespace Go.Proofs.YthdpeecahpedeaaGreatDoor
open Go.RowKit
set_option linter.unusedVariables false
set_option linter.unusedSimpArgs false
def ansL : Array Value := #[.int .i64 0, .int .i64 0, .int .i64 0, .slice none 0 0, .slice none 0 0, .int .i64 0, .int .i64 0, .int .i64 0, .int .i64 0, .int .i64 0, .int .i64 0]
theorem alloc3 (w : World) (o1 o2 o3 : Obj) : Below w.heap.size w (((w.alloc o1).alloc o2).alloc o3) ∧ (((w.alloc o1).alloc o2).alloc o3).heap[w.heap.size]? = some o1 ∧ (((w.alloc o1).alloc o2).alloc o3).heap[w.heap.size + 1]? = some o2 ∧ (((w.alloc o1).alloc o2).alloc o3).heap[w.heap.size + 1 + 1]? = some o3 := by
  have s1 := size_alloc1 w o1
  have s2 := size_alloc1 (w.alloc o1) o2
  refine ⟨(((Below.refl _ _).alloc (Nat.le_refl _) _).alloc (by omega) _).alloc (by omega) _, ?_, ?_, ?_⟩
  · rw [heap_alloc_old _ _ (by omega), heap_alloc_old _ _ (by omega)]; exact heap_alloc_new _ _
  · rw [heap_alloc_old _ _ (by omega), ← s1]; exact heap_alloc_new _ _
  · rw [show w.heap.size + 1 + 1 = ((w.alloc o1).alloc o2).heap.size by omega]; exact heap_alloc_new _ _
section
variable {w0 w w1 w4 : World} {K Pr P Fi : Nat} {c : Nat → Value} {s : St} {A : Array Value}
def TRead (n : Nat) (s0 s : St) (dl : List Int) (e : Int) : Prop := s.fs = s0.fs ∧ s.fd = s0.fd ∧ s.e1 = s0.e1 ∧ ((s0.l = [] ∧ s0.e1 = 1 ∧ e = 9 ∧ dl = [] ∧ s.l = []) ∨ ((s0.l ≠ [] ∨ s0.e1 = 0) ∧ e = 0 ∧ dl = s0.l.take n ∧ s.l = s0.l.drop n))
theorem PSt.withPi (h : PSt w K Pr P Fi c s) {v : Value} {l : List Int} {e1 : Int} (hu : Upd (fun k => k = s.O ∨ s.v.ownBlock = some k) w w1) (hp : Pi w1 P s.O v l 1 e1) (hn : New w s.v v ∨ ∀ g, v.ownBlock = some g → w.heap.size ≤ g) : PSt w1 K Pr P Fi c { s with v := v, l := l, e1 := e1 } := by
  have n := h.n
  have lK := h.k.kq.kr.lt
  have lP := h.k.kq.pr.lt
  have lF := h.ot.lt
  refine ⟨h.k.upd hu ?_ ?_, h.ot.upd hu ?_, hp, h.n, ?_⟩
  · rintro (e | e); exact n.1 e.symm; exact (h.nv _ e).1 rfl
  · rintro (e | e); exact n.2.1 e.symm; exact (h.nv _ e).2.1 rfl
  · rintro (e | e); exact n.2.2 e.symm; exact (h.nv _ e).2.2 rfl
  · intro g hg
    rcases hn with (e | ⟨g', hg', e⟩) | hn
    · exact h.nv g (by rw [← e]; exact hg)
    · simp only at hg
      rw [e] at hg
      injection hg with hg
      omega
    · have := hn g hg
      omega
def RdSt (K Pr P Fi : Nat) (c : Nat → Value) (n : Nat) (s : St) (w : World) (e : Ending) (w' : World) : Prop :=
  ∃ er p k cc dl s', e = .returned (.tuple #[.slice p k cc, .int .i64 er]) ∧ OB w.heap.size w' (.slice p k cc) dl ∧ PSt w' K Pr P Fi c s' ∧ Upd (fun k => k = s.O) w w' ∧ s'.O = s.O ∧ (∀ g, s'.v.ownBlock = some g → w.heap.size ≤ g ∨ s.v.ownBlock = some g) ∧ TRead n s s' dl er
theorem pread_st (h : PSt w K Pr P Fi c s) (hl : s.l.length ≤ 64) (he : s.e1 = 0 ∨ s.e1 = 1) {n : Nat} (hn : 0 < n) (hn2 : n ≤ 256) : Calls Tryz.prog 153 #[.pointer (some ⟨P, 0, none⟩), .int .i64 1, .int .i64 n] w (RdSt K Pr P Fi c n s w) := by
  have hpi := h.pi
  have post : ∀ {k : Nat} {e : Ending} {w' : World}, s.l.take k = s.l.take n → s.l.drop k = s.l.drop n → (s.l ≠ [] ∨ s.e1 = 0) → RdPost P s.O s.l k s.e1 w e w' → RdSt K Pr P Fi c n s w e w' := by
    rintro k e w' ht hd hw ⟨dv, rfl, hdv, v', hp', hu, hg⟩
    obtain ⟨p, kk, cc, rfl⟩ := own_formN hdv
    refine ⟨0, p, kk, cc, _, { s with v := v', l := s.l.drop k }, rfl, hdv, h.withPi (hu.mono (fun _ _ e => .inl e)) hp' (.inr hg), hu, rfl, fun g e => .inl (hg g e), rfl, rfl, rfl, .inr ⟨hw, rfl, ht, hd⟩⟩
  by_cases h0 : s.l = []
  · rcases he with he | he
    · rw [h0, he] at hpi
      refine (pread_end hpi hn hn2).mono ?_
      intro e w' hp
      refine post (k := 0) (by rw [h0]; simp) (by rw [h0]; simp) (.inr he) ?_
      rw [h0, he]
      exact hp
    · have hpi' := hpi
      rw [h0, he] at hpi
      refine (pread_wait hpi hn hn2).mono ?_
      rintro e w' ⟨rfl, rfl⟩
      refine ⟨9, none, 0, 0, [], s, rfl, OB.nil _ _, h, Upd.refl _ _, rfl, fun g e => .inr e, rfl, rfl, rfl, .inl ⟨h0, he, rfl, rfl, h0⟩⟩
  · have hl0 : s.l.length ≠ 0 := fun e => h0 (List.eq_nil_of_length_eq_zero e)
    refine (pread_is hpi hl hl0 hn hn2 (k := min n s.l.length) rfl).mono ?_
    intro e w' hp
    refine post ?_ ?_ (.inl h0) hp
    · rcases Nat.le_total n s.l.length with q | q
      · rw [Nat.min_eq_left q]
      · rw [Nat.min_eq_right q, List.take_of_length_le (Nat.le_refl _), List.take_of_length_le q]
    · rcases Nat.le_total n s.l.length with q | q
      · rw [Nat.min_eq_left q]
      · rw [Nat.min_eq_right q, List.drop_of_length_le (Nat.le_refl _), List.drop_of_length_le q]
attribute [local go_sem ↓] bd_ans ld_ans st_ans
set_option maxRecDepth 100000 in
set_option maxHeartbeats 1000000 in
theorem kread_is (h0 : Below w0.heap.size w0 w) (h : PSt w K Pr P Fi c s) (ho : Old w0.heap.size K Pr P Fi) (hfl : s.O < w0.heap.size ∧ ∀ g, s.v.ownBlock = some g → g < w0.heap.size) (hl : s.l.length ≤ 64) (he : s.e1 = 0 ∨ s.e1 = 1) (hA : A.size = 7) {n : Nat} (ha : A[3]? = some (.int .i64 n)) (hn : 0 < n) (hn2 : n ≤ 256) :
    Calls Tryz.prog 78 #[.pointer (some ⟨K, 0, none⟩), .int .i64 1, .agg A, .agg #[.int .i64 2, .int .i64 1, .int .i64 1, .bool false, .int .i64 0]] w (Res w0 (POut w0.heap.size (fun k => k = s.O) K Pr P Fi c (fun s' dl e a b => TRead n s s' dl e ∧ VN w0.heap.size s s')) w) := by
  obtain ⟨hb, r1, r2, r3⟩ := alloc3 w (.cells A 36) (.cells #[.int .i64 2, .int .i64 1, .int .i64 1, .bool false, .int .i64 0] 156) (.cells ansL 33)
  have h1 := h.keep hb
  have a3 := cell_of_row _ w.heap.size 3 _ _ (0, 0) r1
  rw [ha] at a3
  have t0 := (cell_of_row _ (w.heap.size + 1) 0 _ _ (0, 0) r2).trans (show (#[.int .i64 2, .int .i64 1, .int .i64 1, .bool false, .int .i64 0] : Array Value)[0]? = some (.int .i64 2) from rfl)
  have t1 := (cell_of_row _ (w.heap.size + 1) 1 _ _ (0, 0) r2).trans (show (#[.int .i64 2, .int .i64 1, .int .i64 1, .bool false, .int .i64 0] : Array Value)[1]? = some (.int .i64 1) from rfl)
  have t2 := (cell_of_row _ (w.heap.size + 1) 2 _ _ (0, 0) r2).trans (show (#[.int .i64 2, .int .i64 1, .int .i64 1, .bool false, .int .i64 0] : Array Value)[2]? = some (.int .i64 1) from rfl)
  have q3 := h1.k.q3
  have HC := Lib.hid (pread_st (h1.keep (Below.refl _ _).drew) hl he hn hn2)
  have HR3 := Lib.hid r3
  have LZ : Hid (w.heap.size + 1 + 1 < (((w.alloc (.cells A 36)).alloc (.cells #[.int .i64 2, .int .i64 1, .int .i64 1, .bool false, .int .i64 0] 156)).alloc (.cells ansL 33)).heap.size) := Lib.hid (Array.getElem?_eq_some_iff.1 r3).1
  have H1 := Lib.hid h1
  have HB := Lib.hid hb
  have H0 := Lib.hid h0
  have HO := Lib.hid ho
  have HF := Lib.hid hfl
  have i0 : ¬ (n : Int) < 0 := by omega
  have i2 : ¬ (256 : Int) < n := by omega
  clear h0 h ho hfl hl he hA ha hn hn2 hb r1 r2 r3 h1
  unfold ansL at *
  go_enter Tryz.func78, Tryz.ntmps78
  go_upto_region 1 with fail
  generalize (((w.alloc (.cells A 36)).alloc (.cells #[.int .i64 2, .int .i64 1, .int .i64 1, .bool false, .int .i64 0] 156)).alloc (.cells #[.int .i64 0, .int .i64 0, .int .i64 0, .slice none 0 0, .slice none 0 0, .int .i64 0, .int .i64 0, .int .i64 0, .int .i64 0, .int .i64 0, .int .i64 0] 33)) = w1 at *
  go_upto_region 6 with fail
  have hbd := bd_ead
  have lO := HF.out.1
  have z0 := H0.out.size
  have KO := H1.out.n.1
  have hkl := H1.out.k.kq.kr.lt
  have l0 : w.heap.size < w1.heap.size ∧ w.heap.size + 1 < w1.heap.size := by have := LZ.out; omega
  have HKK : Hid (∀ w2, Upd (fun k => k = s.O) w1.drew w2 → w2.cell? ⟨K, 3, none⟩ = some (.pointer (some ⟨P, 0, none⟩)) ∧ w2.cell? ⟨w.heap.size + 1, 1, none⟩ = some (.int .i64 1) ∧ w2.cell? ⟨w.heap.size, 3, none⟩ = some (.int .i64 n)) := Lib.hid fun w2 hu => ⟨(hu.cell hkl (fun e => KO e.symm)).trans q3, (hu.cell l0.2 (fun e => by omega)).trans t1, (hu.cell l0.1 (fun e => by omega)).trans a3⟩
  clear lO z0 KO hkl l0 t0 t2
  go_region_held3 (fun wx => wx.cell? ⟨K, 3, none⟩ = some (.pointer (some ⟨P, 0, none⟩)) ∧ wx.cell? ⟨w.heap.size + 1, 1, none⟩ = some (.int .i64 1) ∧ wx.cell? ⟨w.heap.size, 3, none⟩ = some (.int .i64 n)) (first | exact ⟨q3, t1, a3⟩ | exact hS2 | assumption) ((go_at_call 153; (with_reducible refine HC.out.mono ?_); rintro e2 w2 ⟨er, p, kk, cc, dl, s', rfl, hd, hs', hu2, hO2, hg2, hT⟩; have hS2 := HKK.out w2 hu2; have HS2 := Lib.hid hs'; have HU2 := Lib.hid hu2; have HO2 := Lib.hid hO2; have HG2 := Lib.hid hg2; have HT := Lib.hid hT; have HD := Lib.hid hd; clear hd hs' hu2 hO2 hg2 hT))
  have u2 : Upd (fun k => k = s.O) w1 w2 := (Upd.drew w1).trans HU2.out
  have hr2 : Row w2 (w.heap.size + 1 + 1) 33 ansZ := Row.upd (c := ansZ) HR3.out u2 (fun e => by have := HF.out.1; have := H0.out.size; omega)
  obtain ⟨w5, hst, hld, hres⟩ := res_end (e := er) (a := kk) (r := 0) (d := .slice p kk cc) (dl := dl) (T := fun s' dl e a b => TRead n s s' dl e ∧ VN w0.heap.size s s') hr2 rfl HS2.out HO.out H0.out.size (by omega) ((Upd.below HB.out).trans u2) (fun i e => by have := HF.out.1; omega) (.inl (by rw [HO2.out]; exact HF.out.1)) (fun g hg => by
    rcases HG2.out g hg with q | q
    · right
      have := LZ.out
      exact Nat.lt_of_lt_of_le this q
    · exact .inl (HF.out.2 g q)) (HD.out.base LZ.out) ⟨HT.out, HO2.out, fun g hg => by
    rcases HG2.out g hg with q | q
    · exact .inr (Nat.le_trans H0.out.size (Nat.le_trans HB.out.size q))
    · exact .inl q⟩
  have HLD := Lib.hid hld
  have HRES := Lib.hid hres
  clear u2 hr2 hld hres hS2 q3 t1 a3
  have hbd2 := hbd w2 er kk p kk cc
  clear hbd
  generalize ansV er kk 0 (.slice p kk cc) = X at *
  go_wp2_with fail
  exact bodyPost_ret (v := .agg X) (by rw [results_cell1 rfl]; simp [asAddr, Result.andThen, HLD.out]) rfl HRES.out
end
end Go.Proofs.YthdpeecahpedeaaGreatDoor
