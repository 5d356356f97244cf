/- The walk of the kernel's write at one pipe. The walk of the kernel's descriptor: pipe, read, write. -/
import Derived.Test.YthdpeecahpedeaaGreatDoorPipeN
namespace Go.Proofs.YthdpeecahpedeaaGreatDoor
open Go.RowKit
set_option linter.unusedVariables false
set_option linter.unusedSimpArgs false
section
variable {w0 w w1 w4 : World} {K Pr P Fi : Nat} {c : Nat → Value} {s : St} {A : Array Value}
def TWrite (bs : List Int) (s0 s : St) (dl : List Int) (e a : Int) : Prop := s.fs = s0.fs ∧ s.fd = s0.fd ∧ s.e1 = 1 ∧ dl = [] ∧ ((0 < bs.length ∧ s0.l.length = 64 ∧ e = 9 ∧ s.l = s0.l) ∨ (∃ m : Nat, m = min bs.length (64 - s0.l.length) ∧ e = 0 ∧ a = m ∧ s.l = s0.l ++ bs.take m))
def WrSt (K Pr P Fi : Nat) (c : Nat → Value) (bs : List Int) (s : St) (w : World) (e : Ending) (w' : World) : Prop :=
  ∃ (er : Int) (m : Int) (s' : St), e = .returned (.tuple #[.int .i64 m, .int .i64 er]) ∧ (er = 0 ∨ er = 9) ∧ PSt w' K Pr P Fi c s' ∧ Upd (fun k => k = s.O ∨ s.v.ownBlock = some k) w w' ∧ s'.O = s.O ∧ (∀ g, s'.v.ownBlock = some g → w.heap.size ≤ g ∨ s.v.ownBlock = some g) ∧ TWrite bs s s' [] er m
theorem pwrite_st (h : PSt w K Pr P Fi c s) (hl : s.l.length ≤ 64) (he : s.e1 = 1) {bs : List Int} {a : Option Addr} {cp : Nat} (hd : At (Value.int .u8) 0 w (.slice a bs.length cp) bs) (hn0 : a = none → cp = 0) (hn2 : bs.length ≤ 256) : Calls Tryz.prog 155 #[.pointer (some ⟨P, 0, none⟩), .int .i64 1, .slice a bs.length cp] w (WrSt K Pr P Fi c bs s w) := by
  have hpi := h.pi
  rw [he] at hpi
  by_cases hw : 0 < bs.length ∧ s.l.length = 64
  · refine (pwrite_wait hpi hw.2 hw.1 hn2).mono ?_
    rintro e w' ⟨rfl, rfl⟩
    exact ⟨9, 0, s, rfl, .inr rfl, h, Upd.refl _ _, rfl, fun g e => .inr e, rfl, rfl, he, rfl, .inl ⟨hw.1, hw.2, rfl, rfl⟩⟩
  · obtain ⟨a', c', e1, hcl, hcm, hm⟩ := hd
    injection e1 with q1 q2 q3
    subst q1 q3
    have hlt : (bs.take (min bs.length (64 - s.l.length))).length = min bs.length (64 - s.l.length) := by rw [List.length_take]; omega
    refine (pwrite_is hpi hl hn2 hcl (by omega) rfl (news := bs.take (min bs.length (64 - s.l.length))) hlt ?_ ?_).mono ?_
    · intro e
      refine ⟨?_, hn0 e⟩
      rcases hm with q | ⟨b, off, q, _⟩
      · rw [q]; simp
      · rw [e] at q; cases q
    · intro ad hadd j u hj
      rcases hm with q | ⟨b, off, q, hb, hc⟩
      · rw [q] at hj; simp at hj
      · rw [hadd] at q
        injection q with q
        subst q
        refine cells_u8 hc j u ?_
        rw [List.getElem?_map] at hj ⊢
        rw [List.getElem?_take] at hj
        split at hj
        · exact hj
        · cases hj
    · rintro e w' ⟨rfl, v', hp', hu, hn⟩
      rw [hlt]
      refine ⟨0, _, { s with v := v', l := s.l ++ bs.take (min bs.length (64 - s.l.length)), e1 := 1 }, rfl, .inl rfl, h.withPi hu hp' (.inl hn), hu, rfl, ?_, rfl, rfl, rfl, rfl, .inr ⟨_, rfl, rfl, rfl, rfl⟩⟩
      intro g hg
      simp only at hg
      rcases hn with e | ⟨g', hg', e⟩
      · exact .inr (by rw [← e]; exact hg)
      · rw [e] at hg
        injection hg with hg
        exact .inl (by omega)
attribute [local go_sem ↓] bd_ans ld_ans st_ans
set_option maxRecDepth 100000 in
set_option maxHeartbeats 1000000 in
theorem kwrite_is (h0 : Below w0.heap.size w0 w) (h : PSt w K Pr P Fi c s) (ho : Old w0.heap.size K Pr P Fi) (hfl : s.O < w0.heap.size ∧ ∀ g, s.v.ownBlock = some g → g < w0.heap.size) (hl : s.l.length ≤ 64) (he : s.e1 = 1) (hA : A.size = 7) {bs : List Int} {ad : Option Addr} {cp : Nat} (ha : A[6]? = some (.slice ad bs.length cp)) (hd : At (Value.int .u8) 0 w (.slice ad bs.length cp) bs) (hn0 : ad = none → cp = 0) (hn2 : bs.length ≤ 256) :
    Calls Tryz.prog 79 #[.pointer (some ⟨K, 0, none⟩), .int .i64 1, .agg A, .agg #[.int .i64 3, .int .i64 1, .int .i64 2, .bool false, .int .i64 0]] w (Res w0 (POut w0.heap.size (fun k => k = s.O ∨ s.v.ownBlock = some k) K Pr P Fi c (fun s' dl e a b => TWrite bs s s' dl e a ∧ VN w0.heap.size s s')) w) := by
  obtain ⟨hb, r1, r2, r3⟩ := alloc3 w (.cells A 36) (.cells #[.int .i64 3, .int .i64 1, .int .i64 2, .bool false, .int .i64 0] 156) (.cells ansL 33)
  have h1 := h.keep hb
  have a3 := cell_of_row _ w.heap.size 6 _ _ (0, 0) r1
  rw [ha] at a3
  have t0 := (cell_of_row _ (w.heap.size + 1) 0 _ _ (0, 0) r2).trans (show (#[.int .i64 3, .int .i64 1, .int .i64 2, .bool false, .int .i64 0] : Array Value)[0]? = some (.int .i64 3) from rfl)
  have t1 := (cell_of_row _ (w.heap.size + 1) 1 _ _ (0, 0) r2).trans (show (#[.int .i64 3, .int .i64 1, .int .i64 2, .bool false, .int .i64 0] : Array Value)[1]? = some (.int .i64 1) from rfl)
  have t2 := (cell_of_row _ (w.heap.size + 1) 2 _ _ (0, 0) r2).trans (show (#[.int .i64 3, .int .i64 1, .int .i64 2, .bool false, .int .i64 0] : Array Value)[2]? = some (.int .i64 2) from rfl)
  have q3 := h1.k.q3
  have HC := Lib.hid (pwrite_st (h1.keep (Below.refl _ _).drew) hl he ((hd.keep hb).keep (Below.refl _ _).drew) hn0 hn2)
  have HR3 := Lib.hid r3
  have LZ : Hid (w.heap.size + 1 + 1 < (((w.alloc (.cells A 36)).alloc (.cells #[.int .i64 3, .int .i64 1, .int .i64 2, .bool false, .int .i64 0] 156)).alloc (.cells ansL 33)).heap.size) := Lib.hid (Array.getElem?_eq_some_iff.1 r3).1
  have H1 := Lib.hid h1
  have HB := Lib.hid hb
  have H0 := Lib.hid h0
  have HO := Lib.hid ho
  have HF := Lib.hid hfl
  have i2 : ¬ (256 : Int) < bs.length := by omega
  clear h0 h ho hfl hl he hA ha hn0 hn2 hd hb r1 r2 r3 h1
  unfold ansL at *
  generalize bs.length = n at *
  go_enter Tryz.func79, Tryz.ntmps79
  go_upto_region 1 with fail
  generalize (((w.alloc (.cells A 36)).alloc (.cells #[.int .i64 3, .int .i64 1, .int .i64 2, .bool false, .int .i64 0] 156)).alloc (.cells #[.int .i64 0, .int .i64 0, .int .i64 0, .slice none 0 0, .slice none 0 0, .int .i64 0, .int .i64 0, .int .i64 0, .int .i64 0, .int .i64 0, .int .i64 0] 33)) = w1 at *
  go_upto_region 6 with fail
  have hbd := bd_ea
  have lO := HF.out.1
  have lV := HF.out.2
  have z0 := H0.out.size
  have KO := H1.out.n.1
  have KV := H1.out.nv
  have hkl := H1.out.k.kq.kr.lt
  have l0 : w.heap.size < w1.heap.size ∧ w.heap.size + 1 < w1.heap.size := by have := LZ.out; omega
  have HKK : Hid (∀ w2, Upd (fun k => k = s.O ∨ s.v.ownBlock = some k) w1.drew w2 → w2.cell? ⟨K, 3, none⟩ = some (.pointer (some ⟨P, 0, none⟩)) ∧ w2.cell? ⟨w.heap.size + 1, 1, none⟩ = some (.int .i64 1) ∧ w2.cell? ⟨w.heap.size, 6, none⟩ = some (.slice ad n cp)) := Lib.hid fun w2 hu => ⟨(hu.cell hkl (fun e => by rcases e with e | e; exact KO e.symm; exact (KV _ e).1 rfl)).trans q3, (hu.cell l0.2 (fun e => by rcases e with e | e; omega; have := lV _ e; omega)).trans t1, (hu.cell l0.1 (fun e => by rcases e with e | e; omega; have := lV _ e; omega)).trans a3⟩
  clear lO lV KV z0 KO hkl l0 t0 t2
  go_region_held3 (fun wx => wx.cell? ⟨K, 3, none⟩ = some (.pointer (some ⟨P, 0, none⟩)) ∧ wx.cell? ⟨w.heap.size + 1, 1, none⟩ = some (.int .i64 1) ∧ wx.cell? ⟨w.heap.size, 6, none⟩ = some (.slice ad n cp)) (first | exact ⟨q3, t1, a3⟩ | exact hS2 | assumption) ((go_at_call 155; (with_reducible refine HC.out.mono ?_); rintro e2 w2 ⟨er, m, s', rfl, hE, hs', hu2, hO2, hg2, hT⟩; have hS2 := HKK.out w2 hu2; have HS2 := Lib.hid hs'; have HU2 := Lib.hid hu2; have HO2 := Lib.hid hO2; have HG2 := Lib.hid hg2; have HT := Lib.hid hT; clear hs' hu2 hO2 hg2 hT))
  have u2 : Upd (fun k => k = s.O ∨ s.v.ownBlock = some k) w1 w2 := (Upd.drew w1).trans HU2.out
  have hr2 : Row w2 (w.heap.size + 1 + 1) 33 ansZ := Row.upd (c := ansZ) HR3.out u2 (fun e => by rcases e with e | e; (have := HF.out.1; have := H0.out.size; omega); (have := HF.out.2 _ e; have := H0.out.size; omega))
  obtain ⟨w5, hst, hld, hres⟩ := res_end (e := er) (a := m) (r := 0) (d := .slice none 0 0) (dl := []) (T := fun s' dl e a b => TWrite bs s s' dl e a ∧ VN w0.heap.size s s') hr2 rfl HS2.out HO.out H0.out.size (by omega) ((Upd.below HB.out).trans u2) (fun i e => by rcases e with e | e; (have := HF.out.1; omega); exact HF.out.2 _ e) (.inl (by rw [HO2.out]; exact HF.out.1)) (fun g hg => by
    rcases HG2.out g hg with q | q
    · right
      have := LZ.out
      exact Nat.lt_of_lt_of_le this q
    · exact .inl (HF.out.2 g q)) (OB.nil _ _) ⟨HT.out, HO2.out, fun g hg => by
    rcases HG2.out g hg with q | q
    · exact .inr (Nat.le_trans H0.out.size (Nat.le_trans HB.out.size q))
    · exact .inl q⟩
  have HLD := Lib.hid hld
  have HRES := Lib.hid hres
  clear u2 hr2 hld hres hS2 q3 t1 a3
  have hbd2 := hbd w2 er m
  clear hbd
  generalize ansV er m 0 (.slice none 0 0) = X at *
  rcases hE with rfl | rfl
  all_goals
    go_wp2_with fail
    exact bodyPost_ret (v := .agg X) (by rw [results_cell1 rfl]; simp [asAddr, Result.andThen, HLD.out]) rfl HRES.out
end
end Go.Proofs.YthdpeecahpedeaaGreatDoor
namespace Go.Proofs.YthdpeecahpedeaaGreatDoor
open Go.RowKit
set_option linter.unusedVariables false
set_option linter.unusedSimpArgs false
section
variable {w0 w w1 w4 : World} {K Pr P Fi : Nat} {c : Nat → Value} {s : St} {A : Array Value} {Out : World → Array Value → World → Prop}
theorem alloc2 (w : World) (o1 o2 : Obj) : Below w.heap.size w ((w.alloc o1).alloc o2) ∧ ((w.alloc o1).alloc o2).heap[w.heap.size]? = some o1 ∧ ((w.alloc o1).alloc o2).heap[w.heap.size + 1]? = some o2 := by
  have s1 := size_alloc1 w o1
  refine ⟨((Below.refl _ _).alloc (Nat.le_refl _) _).alloc (by omega) _, ?_, ?_⟩
  · rw [heap_alloc_old _ _ (by omega)]; exact heap_alloc_new _ _
  · rw [← s1]; exact heap_alloc_new _ _
theorem get0_is {fs : Nat → OpenLaw.F} {fd : Nat → Nat} (hf : OpenLaw.OTab w Fi fs fd) (hd : fd 8 = 1) (hF : fs 0 = tk) : Calls Tryz.prog 77 #[.pointer (some ⟨Fi, 0, none⟩), .int .i64 1, .int .i64 0] w fun e w' => e = .returned (.tuple #[.agg #[.int .i64 2, .int .i64 1, .int .i64 1, .bool false, .int .i64 0], .int .i64 0]) ∧ Below w.heap.size w w' := by
  have HG := OpenLaw.get_is hf (p := 1) (by decide) (by decide) (j := 0) (by decide) (k := 0) hd
  rw [hF] at HG
  exact HG
theorem get1_is {fs : Nat → OpenLaw.F} {fd : Nat → Nat} (hf : OpenLaw.OTab w Fi fs fd) (hd : fd 9 = 2) (hF : fs 1 = gv) : Calls Tryz.prog 77 #[.pointer (some ⟨Fi, 0, none⟩), .int .i64 1, .int .i64 1] w fun e w' => e = .returned (.tuple #[.agg #[.int .i64 3, .int .i64 1, .int .i64 2, .bool false, .int .i64 0], .int .i64 0]) ∧ Below w.heap.size w w' := by
  have HG := OpenLaw.get_is hf (p := 1) (by decide) (by decide) (j := 1) (by decide) (k := 1) hd
  rw [hF] at HG
  exact HG
attribute [local go_sem ↓] bd_ans ld_ans st_ans ld_call ld_thing st_thing
set_option maxRecDepth 100000 in
set_option maxHeartbeats 1000000 in
theorem desc_pipe (ok : OutOk w0 Out) (hA : A.size = 7) (ha : A[0]? = some (.int .i64 10)) (hs : Spec w0 Out 74 #[.pointer (some ⟨K, 0, none⟩), .int .i64 1]) :
    Spec w0 Out 35 #[.pointer (some ⟨K, 0, none⟩), .int .i64 1, .agg A] := by
  intro w h0
  obtain ⟨hb, r1, r2⟩ := alloc2 w (.cells A 36) (.cells ansL 33)
  have d0 := cell_of_row _ w.heap.size 0 _ _ (0, 0) r1
  rw [ha] at d0
  have HR : Hid (Row ((w.alloc (.cells A 36)).alloc (.cells ansL 33)) (w.heap.size + 1) 33 ansZ) := Lib.hid r2
  have HB := Lib.hid hb
  have HC := Lib.hid (hs _ (h0.trans (hb.mono h0.size)))
  have HOK := Lib.hid ok
  have H0 := Lib.hid h0
  have HLT : Hid (w.heap.size + 1 < ((w.alloc (.cells A 36)).alloc (.cells ansL 33)).heap.size) := Lib.hid HR.out.lt
  clear hb r1 r2 hA ha hs ok h0
  unfold ansL at *
  go_enter Tryz.func35, Tryz.ntmps35
  go_upto_region 1 with fail
  generalize (w.alloc (.cells A 36)).alloc (.cells #[.int .i64 0, .int .i64 0, .int .i64 0, .slice none 0 0, .slice none 0 0, .int .i64 0, .int .i64 0, .int .i64 0, .int .i64 0, .int .i64 0, .int .i64 0] 33) = w1 at *
  go_wp2_with (go_at_call 74; refine HC.out.mono ?_; rintro e2 w2 ⟨X, rfl, hX, hone, hu, ho⟩; have hr := ans_row H0.out HR.out (Nat.le_succ _) hu; have hst := ans_st hr hX hone; have HLD := Lib.hid (ans_ldV hr hX); have HP := Lib.hid (HOK.out.put (C := X) H0.out HB.out hu ho (Nat.le_succ _) HLT.out); have HX := Lib.hid (And.intro hX hone); clear hr hX hone hu ho; generalize w2.setRow (w.heap.size + 1) X = w3 at *)
  exact bodyPost_ret (v := .agg X) (by rw [results_cell1 rfl]; simp [asAddr, Result.andThen, HLD.out]) rfl ⟨X, rfl, HX.out.1, HX.out.2, HP.out.1, HP.out.2⟩
set_option maxRecDepth 100000 in
set_option maxHeartbeats 1000000 in
theorem desc_read (ok : OutOk w0 Out) (hk : KB4 w0 K Pr P Fi c) {fs : Nat → OpenLaw.F} {fd : Nat → Nat} (hf : OpenLaw.OTab w0 Fi fs fd) (hd : fd 8 = 1) (hF : fs 0 = tk) (hA : A.size = 7) (ha : A[0]? = some (.int .i64 7)) (ha1 : A[1]? = some (.int .i64 0)) (hs : Spec w0 Out 78 #[.pointer (some ⟨K, 0, none⟩), .int .i64 1, .agg A, .agg #[.int .i64 2, .int .i64 1, .int .i64 1, .bool false, .int .i64 0]]) :
    Spec w0 Out 35 #[.pointer (some ⟨K, 0, none⟩), .int .i64 1, .agg A] := by
  intro w h0
  obtain ⟨hb, r1, r2⟩ := alloc2 w (.cells A 36) (.cells ansL 33)
  have d0 := cell_of_row _ w.heap.size 0 _ _ (0, 0) r1
  rw [ha] at d0
  have d1 := cell_of_row _ w.heap.size 1 _ _ (0, 0) r1
  rw [ha1] at d1
  have h01 := h0.trans (hb.mono h0.size)
  have q6 := (hk.keep h01).q6
  have HG : Hid (∀ wx, Below ((w.alloc (.cells A 36)).alloc (.cells ansL 33)).heap.size ((w.alloc (.cells A 36)).alloc (.cells ansL 33)) wx → Calls Tryz.prog 77 #[.pointer (some ⟨Fi, 0, none⟩), .int .i64 1, .int .i64 0] wx fun e w' => e = .returned (.tuple #[.agg #[.int .i64 2, .int .i64 1, .int .i64 1, .bool false, .int .i64 0], .int .i64 0]) ∧ Below wx.heap.size wx w') := Lib.hid fun wx hx => get0_is ((hf.keep h01).keep hx) hd hF
  have HR1 : Hid (Row ((w.alloc (.cells A 36)).alloc (.cells ansL 33)) w.heap.size 36 A) := Lib.hid r1
  have HR : Hid (Row ((w.alloc (.cells A 36)).alloc (.cells ansL 33)) (w.heap.size + 1) 33 ansZ) := Lib.hid r2
  have HB := Lib.hid hb
  have HC := Lib.hid hs
  have HOK := Lib.hid ok
  have H0 := Lib.hid h0
  have HK := Lib.hid hk.kq.kr.lt
  have HLT : Hid (w.heap.size + 1 < ((w.alloc (.cells A 36)).alloc (.cells ansL 33)).heap.size) := Lib.hid HR.out.lt
  have HAS := Lib.hid hA
  clear hb r1 r2 hA ha hs ok h0 hk hf hd hF h01
  unfold ansL at *
  go_enter Tryz.func35, Tryz.ntmps35
  go_upto_region 1 with fail
  generalize (w.alloc (.cells A 36)).alloc (.cells #[.int .i64 0, .int .i64 0, .int .i64 0, .slice none 0 0, .slice none 0 0, .int .i64 0, .int .i64 0, .int .i64 0, .int .i64 0, .int .i64 0, .int .i64 0] 33) = w1 at *
  go_upto_region 16 with fail
  have HKK : Hid (∀ w2, Below w1.heap.size w1 w2 → w2.cell? ⟨K, 6, none⟩ = some (.pointer (some ⟨Fi, 0, none⟩)) ∧ w2.cell? ⟨w.heap.size, 1, none⟩ = some (.int .i64 0)) := Lib.hid fun w2 hu => ⟨(hu.cell (p := ⟨K, 6, none⟩) (World.block_lt_of_cell? w1 _ q6)).trans q6, (hu.cell (p := ⟨w.heap.size, 1, none⟩) (World.block_lt_of_cell? w1 _ d1)).trans d1⟩
  have hbd := (Below.refl w1.heap.size w1).drew
  have hbz := Go.Joins.below_alloc1 w1 (.cells #[.int .i64 0, .int .i64 0, .int .i64 0, .bool false, .int .i64 0] 156)
  have hS1 := HKK.out _ hbz.drew
  go_region_held3 (fun wx => wx.cell? ⟨K, 6, none⟩ = some (.pointer (some ⟨Fi, 0, none⟩)) ∧ wx.cell? ⟨w.heap.size, 1, none⟩ = some (.int .i64 0)) (first | exact ⟨q6, d1⟩ | exact hS1 | exact hS2 | exact hS3 | exact hS4 | assumption)
    (first | ((go_at_call 77; (with_reducible refine (HG.out w1.drew hbd).mono ?_); rintro e2 w2 ⟨rfl, hb2⟩; have hb2 := hbd.trans hb2; have hb3 := hb2.trans ((Go.Joins.below_alloc1 w2 (.cells #[.int .i64 0, .int .i64 0, .int .i64 0, .bool false, .int .i64 0] 156)).mono hb2.size); have hst := st0_new w2 (T := 156) (c := #[.int .i64 0, .int .i64 0, .int .i64 0, .bool false, .int .i64 0]) (cs := #[.int .i64 2, .int .i64 1, .int .i64 1, .bool false, .int .i64 0]) rfl (by kernel_rfl) (by simp [Value.oneCell']); have hb4 := hb2.trans ((Go.Joins.below_alloc1 w2 (.cells #[.int .i64 2, .int .i64 1, .int .i64 1, .bool false, .int .i64 0] 156)).mono hb2.size); have hS2 := HKK.out w2 hb2; have hS3 := HKK.out _ hb3; have hS4 := HKK.out _ hb4; have HB4 := Lib.hid hb4; have HRT := Lib.hid (row_new w2 156 #[.int .i64 2, .int .i64 1, .int .i64 1, .bool false, .int .i64 0]); clear hb2 hb3 hb4; obtain ⟨w5, hw5⟩ : ∃ w5, w5 = w2.alloc (.cells #[.int .i64 2, .int .i64 1, .int .i64 1, .bool false, .int .i64 0] 156) := ⟨_, rfl⟩; rw [← hw5] at hst hS4 HB4 HRT; clear hw5)) | ((go_at_call 77; (with_reducible refine (HG.out _ hbz.drew).mono ?_); rintro e2 w2 ⟨rfl, hb2⟩; have hr2 := (row_new w1 156 #[.int .i64 0, .int .i64 0, .int .i64 0, .bool false, .int .i64 0]).drew.keep hb2; have hst := hr2.st0 (cs := #[.int .i64 2, .int .i64 1, .int .i64 1, .bool false, .int .i64 0]) rfl (by kernel_rfl) (by simp [Value.oneCell']); have hb2 := hbz.drew.trans (hb2.mono hbz.drew.size); have hb4 : Below w1.heap.size w1 (w2.setRow w1.heap.size #[.int .i64 2, .int .i64 1, .int .i64 1, .bool false, .int .i64 0]) := ((Upd.below (S := fun k => k = w1.heap.size) hb2).trans (Upd.setRow _ _ rfl)).toBelow (Nat.le_refl _) (fun k hk e => by omega); have hS2 := HKK.out w2 hb2; have hS4 := HKK.out _ hb4; have HB4 := Lib.hid hb4; have HRT := Lib.hid (hr2.setRow #[.int .i64 2, .int .i64 1, .int .i64 1, .bool false, .int .i64 0]); clear hb2 hb4 hr2; obtain ⟨w5, hw5⟩ : ∃ w5, w5 = w2.setRow w1.heap.size #[.int .i64 2, .int .i64 1, .int .i64 1, .bool false, .int .i64 0] := ⟨_, rfl⟩; rw [← hw5] at hst hS4 HB4 HRT; clear hw5)))
  all_goals
    have hb5 := HB4.out
    have HR5 := Lib.hid (HR.out.keep hb5)
    have hr1 := HR1.out.keep hb5
    have e0 : w5.cell? ⟨w.heap.size, 0, none⟩ = some (.int .i64 7) := (hb5.cell (p := ⟨w.heap.size, 0, none⟩) (World.block_lt_of_cell? w1 _ d0)).trans d0
    have l1 := ld_callR hr1 HAS.out
    have l2 := HRT.out.ld0 (d := _) Tryz.underlying156 rfl (by kernel_rfl)
    have HB5 := Lib.hid (HB.out.trans (hb5.mono HB.out.size))
    have HC5 := Lib.hid (HC.out w5 (H0.out.trans (HB5.out.mono H0.out.size)))
    have HL5 := Lib.hid (Nat.lt_of_lt_of_le HLT.out hb5.size)
    clear hb5 hr1 hS1 hS2 hS4 hst hbd hbz HKK HRT HB4 HC HG HR HR1 HB HLT d0 d1 q6
    (try clear hS3)
    go_wp2_with (go_at_call 78; refine HC5.out.mono ?_; rintro e6 w6 ⟨X, rfl, hX, hone, hu, ho⟩; have hr := ans_row H0.out HR5.out (Nat.le_succ _) hu; have hst := ans_st hr hX hone; have HLD := Lib.hid (ans_ldV hr hX); have HP := Lib.hid (HOK.out.put (C := X) H0.out HB5.out hu ho (Nat.le_succ _) HL5.out); have HX := Lib.hid (And.intro hX hone); clear hr hX hone hu ho; generalize w6.setRow (w.heap.size + 1) X = w7 at *)
    exact bodyPost_ret (v := .agg X) (by rw [results_cell1 rfl]; simp [asAddr, Result.andThen, HLD.out]) rfl ⟨X, rfl, HX.out.1, HX.out.2, HP.out.1, HP.out.2⟩
end
end Go.Proofs.YthdpeecahpedeaaGreatDoor
