/- The walks of fs: block, write. The walks of fs: fill. -/
import Derived.Test.YtlfemcbfclallaaGreatDoorFsG
import Derived.StillTailTactics
import Derived.Test.YtlfemcbfclallaaGreatDoorInode2
namespace Go.Proofs.YtlfemcbfclallaaGreatDoor
open Go.RowKit Go.Maps
set_option linter.unusedVariables false
set_option linter.unusedSimpArgs false
def bsec (x : FM) (y : TM) (ps : List Int) (k : Nat) : List Int := if ps.getD k 0 = 0 then zeros 64 else tsec x y (ps.getD k 0).toNat
def Own (G : Nat → Nat) (p : Int) (q : Nat) (G' : Nat → Nat) : Prop := (p = 0 ∧ Fst G q ∧ G' = gOn G q) ∨ (p ≠ 0 ∧ p = q ∧ q < 256 ∧ G' = G)
theorem Own.lt {G G' : Nat → Nat} {p : Int} {q : Nat} (h : Own G p q G') : q < 256 := by
  rcases h with ⟨_, h, _⟩ | ⟨_, _, h, _⟩
  · exact h.hi
  · exact h
section
variable {w0 w : World} {c : FC} {x : FM} {t : Nat} {y : TM}
theorem own_is (h : TX w0 w c x t y) {p : Int} {q : Nat} {G' : Nat → Nat} (ho : Own y.G p q G') : Calls Tryz.prog 121 #[.pointer (some ⟨t, 0, none⟩), .int .i64 p] w fun e w' => e = .returned (.int .i64 q) ∧ TX w0 w' c x t { y with G := G' } ∧ Upd (tMut t y) w w' := by
  rcases ho with ⟨rfl, h1, rfl⟩ | ⟨h1, h2, _, rfl⟩
  · exact own0_is h h1
  · refine (ownP_is h h1).mono ?_
    rintro e w' ⟨rfl, hb⟩
    exact ⟨by rw [h2], h.keep hb, Upd.below hb⟩
attribute [local go_sem ↓] mkB_eq
set_option maxRecDepth 100000 in
set_option maxHeartbeats 400000 in
theorem block_is (h : TX w0 w c x t y) {n : Nd} (hn : At (Value.int .i64) 0 w n.pv n.ps) (hp : ∀ p ∈ n.ps, 0 ≤ p ∧ p < 256) (k : Nat) (hk : k < 1000) : Calls Tryz.prog 131 #[.pointer (some ⟨t, 0, none⟩), .agg (ndA n), .int .i64 k] w fun e w' => ∃ v, e = .returned v ∧ NewB (bsec x y n.ps k) w v w' := by
  have hal := Go.Joins.below_alloc1 w (.cells (ndA n) 120)
  have hX := h.keep hal
  have hr := row_new w 120 (ndA n)
  have c7 : (w.alloc (.cells (ndA n) 120)).cell? ⟨w.heap.size, 7, none⟩ = some n.pv := by rw [hr.cell]; rfl
  have hA := hn.keep hal
  obtain ⟨a, cap, hpv, hlc, hcm, hcl⟩ := hA
  have hcm' : (cap : Int) ≤ 9223372036854775807 := by unfold maxLen at hcm; omega
  rw [hpv] at c7
  have mk64 := mkB64 (w.alloc (.cells (ndA n) 120))
  have HNB : Hid (NewB (zeros 64) w (.slice (some ⟨(w.alloc (.cells (ndA n) 120)).heap.size, 0, none⟩) 64 64) ((w.alloc (.cells (ndA n) 120)).alloc (.cells ((zeros 64).map u8V).toArray 5))) := Lib.hid ⟨ob_of_bk (bk_new _ _) hal.size (by decide) rfl, below_al hal⟩
  have HAL := Lib.hid hal
  have k0 : (0 : Int) ≤ k := by omega
  unfold bsec
  by_cases hkl : k < n.ps.length
  · obtain ⟨b, off, rfl, hlt, hc⟩ : ∃ b off, a = some ⟨b, off, none⟩ ∧ b < (w.alloc (.cells (ndA n) 120)).heap.size ∧ ∀ i, i < n.ps.length → (w.alloc (.cells (ndA n) 120)).cell? ⟨b, off + i, none⟩ = some (.int .i64 (n.ps.getD i 0)) := by
      rcases hcl with e | e
      · rw [e] at hkl; simp at hkl
      · exact e
    have ck := hc k hkl
    have hpk := hp (n.ps.getD k 0) (by rw [List.getD_eq_getElem?_getD, List.getElem?_eq_getElem hkl]; exact List.getElem_mem hkl)
    have i1 : (k : Int) < n.ps.length := by omega
    have i2 : ¬ (n.ps.length : Int) ≤ k := by omega
    obtain ⟨q, hq⟩ : ∃ q : Nat, n.ps.getD k 0 = q := ⟨(n.ps.getD k 0).toNat, by omega⟩
    rw [hq] at ck hpk ⊢
    have hq256 : q < 256 := by omega
    have HS := Lib.hid (sectorT_is hX hq256 (n := (q : Int)) rfl)
    generalize n.ps.length = L at *
    clear h hX hn hp hpv hcl hc hq hal hr hcm hpk
    generalize ndA n = A at *
    by_cases h0 : (q : Int) = 0
    · have i3 : ((q : Int) == 0) = true := beq_iff_eq.2 h0
      rw [if_pos h0]
      clear HS
      go_enter Tryz.func131, Tryz.ntmps131
      go_wp2_with fail
      go_ret
      exact ⟨_, rfl, by have := HNB.out; simpa using this⟩
    · have i3 : ((q : Int) == 0) = false := beq_eq_false_iff_ne.2 h0
      rw [if_neg h0, Int.toNat_natCast]
      generalize tsec x y q = X at *
      go_enter Tryz.func131, Tryz.ntmps131
      go_wp2_with (go_at_call 212; refine HS.out.mono ?_; rintro e1 w1 ⟨v1, rfl, h1, h2⟩)
      go_ret
      exact ⟨_, rfl, h1.base HAL.out.size, HAL.out.trans (h2.mono HAL.out.size)⟩
  · have e0 : n.ps.getD k 0 = 0 := by rw [List.getD_eq_getElem?_getD, List.getElem?_eq_none (by omega)]; rfl
    have i2 : (n.ps.length : Int) ≤ k := by omega
    rw [if_pos e0]
    generalize n.ps.length = L at *
    clear h hX hn hp hpv hcl e0 hal hr hcm
    generalize ndA n = A at *
    go_enter Tryz.func131, Tryz.ntmps131
    go_wp2_with fail
    go_ret
    exact ⟨_, rfl, by have := HNB.out; simpa using this⟩
theorem own_set {w : World} {B g n cap : Nat} {l : List Int} (h : w.ownsRow B 3 1 (.slice (some ⟨g, 0, none⟩) n cap) n (l.map i64V)) (hl : l.length = n) {k : Nat} (hk : k < n) (q : Int) :
    w.cell? ⟨g, k, none⟩ = some (.int .i64 (l.getD k 0)) ∧ w.frozen? ⟨g, k, none⟩ = false ∧ B ≤ g ∧ g < w.heap.size ∧ At (Value.int .i64) 0 (w.setCell ⟨g, k, none⟩ (.int .i64 q)) (.slice (some ⟨g, 0, none⟩) n cap) (l.set k q) := by
  rcases h.2 with ⟨e, h0⟩ | ⟨g', c', cur, e, hB, hg, h1, h2, h3, h4⟩
  · omega
  · simp only [Value.slice.injEq, Option.some.injEq, Addr.mk.injEq, true_and, and_true] at e
    obtain ⟨rfl, rfl⟩ := e
    have hr : Row w g 3 cur := hg
    have hc : ∀ i, i < n → w.cell? ⟨g, i, none⟩ = some (.int .i64 (l.getD i 0)) := fun i hi => by
      rw [hr.cell]
      have e : (l.map i64V)[i]? = some (.int .i64 (l.getD i 0)) := by rw [List.getElem?_map, List.getElem?_eq_getElem (by omega)]; simp [i64V, hl, hi]
      rw [← h4, Nat.mul_one, List.getElem?_take, if_pos hi, Array.getElem?_toList] at e
      exact e
    refine ⟨hc k hk, hr.fz k, hB, hr.lt, _, cap, by rw [List.length_set, hl], by rw [List.length_set]; omega, h2, .inr ⟨g, 0, rfl, by simpa [World.setCell] using hr.lt, fun i hi => ?_⟩⟩
    rw [List.length_set] at hi
    rw [Nat.zero_add]
    by_cases e : i = k
    · subst e
      rw [set_same (hc i hk)]
      simp [hi]
    · rw [set_off e (hc i (by omega))]
      simp [List.getD_eq_getElem?_getD, List.getElem?_set_ne (fun q : k = i => e q.symm)]
def WroteT (w0 w : World) (c : FC) (x : FM) (t : Nat) (y : TM) (nbk : Nat) (n : Nd) (k q : Nat) (G' : Nat → Nat) (s : SL) (l : List Int) (w' : World) : Prop := ∃ v',
    TX w0 w' c x t { y with G := G', pt := fun j => if j = (q : Int) then some s else y.pt j, np := y.np + 1, pby := fun j => if j = (q : Int) then l else y.pby j } ∧
    Row w' nbk 120 (ndA { n with pv := v', ps := n.ps.set k q }) ∧ At (Value.int .i64) 0 w' v' (n.ps.set k q) ∧ (∀ j, v'.ownBlock = some j → w.heap.size ≤ j ∧ j < w'.heap.size) ∧ Upd (fun j => tMut t y j ∨ j = nbk) w w'
set_option maxRecDepth 100000 in
set_option maxHeartbeats 1000000 in
theorem wrote_is (h : TX w0 w c x t y) {nbk : Nat} {n : Nd} (hr : Row w nbk 120 (ndA n)) (hnm : ¬ tMut t y nbk) (hnb : w0.heap.size ≤ nbk) (hn : At (Value.int .i64) 0 w n.pv n.ps) {k : Nat} (hk : k < n.ps.length) (hl : n.ps.length ≤ 1000) {q : Nat} {G' : Nat → Nat} (ho : Own y.G (n.ps.getD k 0) q G')
    (hfar : (∀ i, i < 32 → (y.nd i).pv.ownBlock ≠ some nbk) ∧ ∀ p s, y.pt p = some s → s.1 ≠ nbk)
    {s : SL} {l : List Int} (hs : Im (fun j => fMut c x j ∨ tMut t y j) w (encS (some s)) l) (hs64 : l.length = 64) (hsB : w0.heap.size ≤ s.1) (hsn : s.1 ≠ nbk) (hnp : y.np < 1000) :
    Calls Tryz.prog 132 #[.pointer (some ⟨t, 0, none⟩), .pointer (some ⟨nbk, 0, none⟩), .int .i64 k, encS (some s)] w fun e w' => e = .returned (.tuple #[]) ∧ WroteT w0 w c x t y nbk n k q G' s l w' := by
  have c7 : w.cell? ⟨nbk, 7, none⟩ = some n.pv := by rw [hr.cell]; rfl
  have HCL := Lib.hid (cloneI_is (by omega) hn)
  have HH := Lib.hid h
  have HR := Lib.hid hr
  have HO := Lib.hid ho
  have HX := Lib.hid (And.intro hnm (And.intro hnb (And.intro hfar (And.intro hs (And.intro hs64 (And.intro hsB (And.intro hsn hnp)))))))
  have HL := Lib.hid (And.intro hk hl)
  have k0 : (0 : Int) ≤ k := by omega
  obtain ⟨V, hV⟩ : ∃ V, V = encS (some s) := ⟨_, rfl⟩
  rw [← hV]
  have HV := Lib.hid hV
  clear h hr ho hn hnm hnb hfar hs hs64 hsB hsn hnp hV
  go_enter Tryz.func132, Tryz.ntmps132
  go_upto_region 1 with (go_at_call 129; refine HCL.out.mono ?_; rintro e1 w1 ⟨v1, rfl, ho1, hb1⟩; obtain ⟨p1, cp1, rfl⟩ := own_form ho1; have z1 := (HR.out.keep hb1).fz 7; have cc1 := ((HR.out.keep hb1).cell 7))
  obtain ⟨g, rfl, hg0, hg1, hg2, hg3⟩ := own_block ho1 (by have := HL.out.1; omega)
  obtain ⟨u1, u2, -, -, -⟩ := own_set ho1 rfl HL.out.1 q
  have HB1 := Lib.hid hb1
  have hgn : g ≠ nbk := fun e => by have := HR.out.lt; omega
  have hng : nbk ≠ g := fun e => hgn e.symm
  have hT2 : TX w0 (w1.setCell ⟨nbk, 7, none⟩ (.slice (some ⟨g, 0, none⟩) n.ps.length cp1)) c x t y := (HH.out.keep hb1).far (Upd.set w1 (b := nbk) (i := 7) _ (S := fun j => j = nbk) rfl) (fun j e => by subst e; exact ⟨HX.out.2.1, HX.out.1, HX.out.2.2.1.1, HX.out.2.2.1.2⟩)
  have n7 : (w1.setCell ⟨nbk, 7, none⟩ (.slice (some ⟨g, 0, none⟩) n.ps.length cp1)).cell? ⟨nbk, 7, none⟩ = some (.slice (some ⟨g, 0, none⟩) n.ps.length cp1) := set_same cc1
  have g7 : (w1.setCell ⟨nbk, 7, none⟩ (.slice (some ⟨g, 0, none⟩) n.ps.length cp1)).cell? ⟨g, k, none⟩ = some (.int .i64 (n.ps.getD k 0)) := set_blk hgn u1
  have ho2 : (w1.setCell ⟨nbk, 7, none⟩ (.slice (some ⟨g, 0, none⟩) n.ps.length cp1)).ownsRow w.heap.size 3 1 (.slice (some ⟨g, 0, none⟩) n.ps.length cp1) n.ps.length (n.ps.map i64V) := (Upd.set w1 (b := nbk) (i := 7) _ (S := fun j => j = nbk) rfl).owns ho1 (fun j e q => by injection e with e; exact hgn (e.trans q))
  have hr2 : Row (w1.setCell ⟨nbk, 7, none⟩ (.slice (some ⟨g, 0, none⟩) n.ps.length cp1)) nbk 120 (ndA { n with pv := .slice (some ⟨g, 0, none⟩) n.ps.length cp1, ps := n.ps.set k q }) := by
    have hrr := HR.out.keep hb1
    rw [hrr.setCell]
    exact hrr.setRow _
  have HU2 : Hid (Upd (fun j => tMut t y j ∨ j = nbk) w (w1.setCell ⟨nbk, 7, none⟩ (.slice (some ⟨g, 0, none⟩) n.ps.length cp1))) := Lib.hid ((Upd.below hb1).trans (Upd.set w1 _ (.inr rfl)))
  have HT2D := Lib.hid (hT2.keep (Below.refl _ _).drew)
  have HO2 := Lib.hid ho2
  have HR2 := Lib.hid hr2
  have i1 : (k : Int) < n.ps.length := by have := HL.out.1; omega
  have hmx : (cp1 : Int) ≤ 9223372036854775807 := by unfold maxLen at hg3; omega
  have hszg : g < (w1.setCell ⟨nbk, 7, none⟩ (.slice (some ⟨g, 0, none⟩) n.ps.length cp1)).heap.size := by simpa [World.setCell] using hg1
  have HSZ := Lib.hid (And.intro hg0 hszg)
  have zg : (w1.setCell ⟨nbk, 7, none⟩ (.slice (some ⟨g, 0, none⟩) n.ps.length cp1)).frozen? ⟨g, k, none⟩ = false := by rw [World.frozen?_setCell]; exact u2
  clear hT2 ho2 hr2 u1 u2 ho1 hb1 hg0 hg1 hg2 hg3 z1 cc1 c7 hszg
  generalize w1.setCell ⟨nbk, 7, none⟩ (.slice (some ⟨g, 0, none⟩) n.ps.length cp1) = w2 at *
  have HOW := Lib.hid (own_is HT2D.out HO.out)
  have n7d : w2.drew.cell? ⟨nbk, 7, none⟩ = some (.slice (some ⟨g, 0, none⟩) n.ps.length cp1) := n7
  have g7d : w2.drew.cell? ⟨g, k, none⟩ = some (.int .i64 (n.ps.getD k 0)) := g7
  have HTM : Hid (∀ j, tMut t y j → j < w.heap.size) := Lib.hid (fun j hj => (HH.out.mlt hj).2)
  have HGM : Hid (¬ tMut t y g) := Lib.hid (fun e => by have := HTM.out g e; have := HSZ.out.1; omega)
  generalize n.ps.getD k 0 = pk at *
  have HNL : Hid (nbk < w2.drew.heap.size) := Lib.hid HR2.out.lt
  have HZG : Hid (w2.drew.frozen? ⟨g, k, none⟩ = false) := Lib.hid zg
  clear n7 g7 zg
  go_region_law (go_simp; go_at_call 121; refine HOW.out.mono ?_; rintro e3 w3 ⟨rfl, hT3, hu3⟩; have s3 := (hu3.cell (b := g) (o := k) HSZ.out.2 HGM.out).trans g7d; have z3 := (hu3.frozen (b := g) (o := k) HSZ.out.2 HGM.out).trans HZG.out; have n3 := (hu3.cell (b := nbk) (o := 7) HNL.out HX.out.1).trans n7d; have HT3 := Lib.hid hT3; have HU3 := Lib.hid hu3; clear hT3 hu3)
  all_goals
    have hT4 := HT3.out.far (Upd.set w3 (b := g) (i := k) (.int .i64 (q : Int)) (S := fun j => j = g) rfl) (fun j e => by
      subst e
      have z0 := HSZ.out.1
      exact ⟨Nat.le_trans HH.out.bl.size z0, HGM.out, fun i hi e => by have := (HH.out.ps i hi).lt j e; omega, fun p s' e => by have := HH.out.ltP e; omega⟩)
    have m3 : (w3.setCell ⟨g, k, none⟩ (.int .i64 (q : Int))).cell? ⟨nbk, 7, none⟩ = some (.slice (some ⟨g, 0, none⟩) n.ps.length cp1) := set_blk hng n3
    have m4 : (w3.setCell ⟨g, k, none⟩ (.int .i64 (q : Int))).cell? ⟨g, k, none⟩ = some (.int .i64 (q : Int)) := set_same s3
    have hr4 : Row (w3.setCell ⟨g, k, none⟩ (.int .i64 (q : Int))) nbk 120 (ndA { n with pv := .slice (some ⟨g, 0, none⟩) n.ps.length cp1, ps := n.ps.set k q }) := ((Row.drew HR2.out).upd HU3.out HX.out.1).upd (Upd.set w3 (b := g) (i := k) (.int .i64 (q : Int)) (S := fun j => j = g) rfl) hng
    have ha4 := (own_set (HU3.out.owns (owns_keep HO2.out (Below.refl _ _).drew) (fun j e q => by injection e with e; subst e; exact HGM.out q)) (by rfl) HL.out.1 (q : Int)).2.2.2.2
    have HU4 : Hid (Upd (fun j => tMut t y j ∨ j = nbk) w (w3.setCell ⟨g, k, none⟩ (.int .i64 (q : Int)))) := Lib.hid (((HU2.out.trans (Upd.drew w2)).trans (HU3.out.mono (fun _ _ e => .inl e))).trans' (Upd.set w3 (b := g) (i := k) (.int .i64 (q : Int)) (S := fun j => j = g) rfl) (fun j hj e => by have := HSZ.out.1; omega))
    have HZ4 : Hid (w2.drew.heap.size ≤ (w3.setCell ⟨g, k, none⟩ (.int .i64 (q : Int))).heap.size) := Lib.hid (by have := HU3.out.size; simpa [World.setCell] using this)
    clear n3 s3 z3 HT3 HU3 n7d g7d HOW
    generalize w3.setCell ⟨g, k, none⟩ (.int .i64 (q : Int)) = w4 at *
    have hT5 := hT4.keep (Below.refl _ _).drew
    have t5 := hT5.c5
    obtain ⟨w6, hput, hm6, hg6⟩ := hT5.pb.put (T := 134) Tryz.underlying134 (k := (q : Int)) (WalkArith.wf_i64 (by have := HO.out.lt; omega)) (by show y.np < maxLen; have := HX.out.2.2.2.2.2.2.2; unfold maxLen; omega) s
    change (Instr.mapUpdate 134 (.map (some y.pb)) (.int .i64 (q : Int)) (encS (some s))).run Tryz.prog _ = _ at hput
    have hT6 := hT5.puts (fb := fun j => if j = (q : Int) then l else y.pby j) hg6 hm6 (fun p s' e => by
      by_cases e2 : p = (q : Int)
      · rw [if_pos e2] at e
        injection e with e
        subst e
        right
        rw [if_pos e2]
        refine ⟨HX.out.2.2.2.1.upd HU4.out (fun j e4 q4 => ?_) |>.upd (S := fun _ => False) (Upd.drew w4) (fun _ _ e => e), HX.out.2.2.2.2.1, HX.out.2.2.2.2.2.1⟩
        rcases q4 with q4 | q4
        · exact HX.out.2.2.2.1.n j e4 (.inr q4)
        · obtain ⟨b, o, n1, k1⟩ := s
          simp only [encS, Value.ownBlock, Option.some.injEq] at e4
          exact HX.out.2.2.2.2.2.2.1 (e4.trans q4)
      · rw [if_neg e2] at e
        left
        exact ⟨e, if_neg e2⟩)
    have HT6 := Lib.hid hT6
    have hnp : nbk ≠ y.pb := fun e => HX.out.1 (.inr (.inr (.inr (.inl e))))
    have hr6 := (Row.drew hr4).upd (Upd.grown hg6 (S := fun j => j = y.pb) rfl) hnp
    have hgp : g ≠ y.pb := fun e => HGM.out (.inr (.inr (.inr (.inl e))))
    have ha6 := (ha4.keep (Below.refl _ _).drew).upd8 (Upd.grown hg6 (S := fun j => j = y.pb) rfl) (fun j e => by injection e with e; subst e; exact hgp)
    have HF6 := Lib.hid (And.intro hr6 (And.intro ha6 ((HU4.out.trans (Upd.drew w4)).trans (Upd.grown hg6 (S := fun j => tMut t y j ∨ j = nbk) (.inl (.inr (.inr (.inr (.inl rfl)))))))))
    have HGZ : Hid (g < w6.heap.size) := Lib.hid (Nat.lt_of_lt_of_le HSZ.out.2 (Nat.le_trans HZ4.out hg6.size))
    have n3d : w4.drew.cell? ⟨nbk, 7, none⟩ = some (.slice (some ⟨g, 0, none⟩) n.ps.length cp1) := m3
    have n4d : w4.drew.cell? ⟨g, k, none⟩ = some (.int .i64 (q : Int)) := m4
    rw [← HV.out] at hput
    clear hT4 hT5 hm6 hg6 hT6 hr4 ha4 hr6 ha6 m3 m4 hnp hgp HU4
    go_upto_region 2 with fail
    go_still_tail 12, (by kernel_rfl)
    change wpList _ _ _ _ _ w4.drew
    go_wp2_with fail
    exact bodyPost_end (results_none rfl _ _ _) rfl ⟨rfl, .slice (some ⟨g, 0, none⟩) n.ps.length cp1, HT6.out, HF6.out.1, HF6.out.2.1, fun j e => by injection e with e; subst e; exact ⟨HSZ.out.1, HGZ.out⟩, HF6.out.2.2⟩
end
end Go.Proofs.YtlfemcbfclallaaGreatDoor
namespace Go.Proofs.YtlfemcbfclallaaGreatDoor
open Go.RowKit Go.Maps
set_option linter.unusedVariables false
set_option linter.unusedSimpArgs false
set_option maxRecDepth 100000 in
set_option maxHeartbeats 400000 in
theorem blocks_is (w : World) (n : Nat) (h0 : 1 ≤ n) (h1 : n ≤ 100000) : Calls Tryz.prog 130 #[.int .i64 n] w fun e w' => e = .returned (.int .i64 ((n - 1) / 64 + 1 : Nat)) ∧ w = w' := by
  have i0 : ¬ (n : Int) ≤ 0 := by omega
  have i1 : (0 : Int) < n := by omega
  have y1 : IntKind.i64.wrap ((n : Int) - 1) = n - 1 := IntWalk.i64_in _ (by omega)
  have q0 : ((n : Int) - 1).tdiv 64 = ((n - 1) / 64 : Nat) := by rw [Int.tdiv_eq_ediv_of_nonneg (by omega)]; omega
  have q1 : ((n : Int) - 1) / 64 = ((n - 1) / 64 : Nat) := by omega
  have y2 : IntKind.i64.wrap (((n - 1) / 64 : Nat) : Int) = ((n - 1) / 64 : Nat) := IntWalk.i64_in _ (by omega)
  have y3 : IntKind.i64.wrap ((((n - 1) / 64 : Nat) : Int) + 1) = ((n - 1) / 64 : Nat) + 1 := IntWalk.i64_in _ (by omega)
  generalize (n - 1) / 64 = k at *
  have hk1 : ((k + 1 : Nat) : Int) = (k : Int) + 1 := by omega
  rw [hk1]
  clear hk1
  go_enter Tryz.func130, Tryz.ntmps130
  go_wp2_with fail
  go_ret
  exact ⟨rfl, rfl⟩
theorem run_copyZ (w : World) (g L c : Nat) (a : Option Addr) : (copyB #[.slice (some ⟨g, 0, none⟩) 64 64, .slice a 0 c]).run Tryz.prog w = .ok (.int .i64 0) w := by
  cases a <;> kernel_rfl
theorem copy64 {w : World} {g : Nat} (hg : BK w g (zeros 64)) {a : Option Addr} {n c : Nat} {z : List Int} (hz : At (Value.int .u8) 0 w (.slice a n c) z) (hn : z.length ≤ 64) :
    ∃ w', (copyB #[.slice (some ⟨g, 0, none⟩) 64 64, .slice a n c]).run Tryz.prog w = .ok (.int .i64 n) w' ∧ BK w' g (splice (zeros 64) 0 z) ∧ Upd (fun k => k = g) w w' := by
  obtain ⟨a', cap, e, h1, h2, h3⟩ := hz
  injection e with e1 e2 e3
  subst e1 e2 e3
  by_cases e0 : z = []
  · subst e0
    exact ⟨w, run_copyZ w g 64 c a, by simpa [splice] using hg, Upd.refl _ _⟩
  · obtain ⟨b, off, rfl, hlt, hc⟩ := h3.resolve_left e0
    exact ⟨_, run_copyB hg (by rw [show z.length.min 64 = min z.length 64 from rfl, Nat.min_eq_left hn]) hc (by simp [zeros]; omega), hg.setRow _, Upd.setRow w _ rfl⟩
end Go.Proofs.YtlfemcbfclallaaGreatDoor
