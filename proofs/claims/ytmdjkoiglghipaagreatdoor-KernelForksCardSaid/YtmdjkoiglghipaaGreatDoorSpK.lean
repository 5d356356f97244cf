/- The walks of space: Read; lay and Write in a page that nobody shares. The walks of space: lay in a page that somebody shares: it is copied first; Write. -/
import Derived.Test.YtmdjkoiglghipaaGreatDoorSpI
import Derived.StillTailTactics
namespace Go.Proofs.YtmdjkoiglghipaaGreatDoor
open Go.RowKit Go.Maps
set_option linter.unusedVariables false
set_option linter.unusedSimpArgs false
/-- a page's bytes behind a write of some at its head -/
def dl (d : Nat → Int) (xs : List Int) (k : Nat) : Nat → Int := fun j => if j < k then xs.getD j 0 else d j
theorem dl_zero (d : Nat → Int) (xs : List Int) : dl d xs 0 = d := by funext j; unfold dl; rw [if_neg (by omega)]
theorem dl_next (d : Nat → Int) (xs : List Int) (k : Nat) : (fun j => if j = k then xs.getD k 0 else dl d xs k j) = dl d xs (k + 1) := by
  funext j
  unfold dl
  by_cases e : j = k
  · subst e; rw [if_pos rfl, if_pos (by omega)]
  · rw [if_neg e]
    by_cases l : j < k
    · rw [if_pos l, if_pos (by omega)]
    · rw [if_neg l, if_neg (by omega)]
/-- a page with other bytes -/
def MS.dat (m : MS) (g : Nat) (d : Nat → Int) : MS := { m with d := fup m.d g d }
section
variable {w w' : World} {M so g b : Nat} {fr sl s pg ad : Int} {m : MS}
theorem MemG.dat (h : MemG w M so fr sl m) (hg : g ∈ m.pl) {i : Nat} (hi : i < 16) (x : Int) : MemG (w.setCell ⟨g, i, none⟩ (.int .u8 x)) M so fr sl (m.dat g (fun j => if j = i then x else m.d g j)) := by
  have := h.page hg (Upd.set w (b := g) (i := i) (.int .u8 x) (S := fun k => k = g) rfl) ((h.pg g hg).byte hi x)
  have e : ({ m with d := fup m.d g (fun j => if j = i then x else m.d g j), u := fup m.u g (m.u g), h := fup m.h g (m.h g) } : MS) = m.dat g (fun j => if j = i then x else m.d g j) := by
    unfold MS.dat
    rw [fup_id m.u g _ rfl, fup_id m.h g _ rfl]
  rw [e] at this
  exact this
set_option maxRecDepth 100000 in
set_option maxHeartbeats 400000 in
theorem readG_is (h : MemG w M so fr sl m) (hs : m.S s = some b) (hwf : (Lit.int .i64 s).wf = true) (h0 : 0 ≤ pg) (h63 : pg < 64) (hF : m.F b pg = some (g, 3)) (hg : g ∈ m.pl) (hh : m.h g = true) (had : ad = 16 * pg) :
    Calls Tryz.prog 10 #[.pointer (some ⟨M, 0, none⟩), .int .i64 s, .int .i64 ad, .int .i64 16] w fun e w' => (∃ v, e = .returned (.tuple #[v, .int .i64 0]) ∧ OB w.heap.size w' v (pgl (m.d g) 16)) ∧ MemG w' M so fr sl m ∧ Upd (fun k => k = M ∨ k = g) w w' := by
  have m4 := h.m4
  have l1 := h.two hs hwf
  have l2 := map_no_nil w b
  have HMAY := Lib.hid (mayG_is h hs hwf h0 h63 hF had (n := 16) (wt := 1) (by omega) (by omega) (.inl rfl))
  have HFE := Lib.hid (fun (wx : World) (hb : Below w.heap.size w wx) => fetchG_is (h.keep hb) hs hwf h0 h63 hF hg hh had (n := 16) (by omega) (N := 16) rfl)
  clear h hs hwf hF hg hh had
  go_enter Tryz.func10, Tryz.ntmps10
  go_wp2_with (first | (go_at_call 22; refine HMAY.out.mono ?_; rintro e1 w1 ⟨rfl, hb1⟩; have HB1 := Lib.hid hb1; have HF1 := Lib.hid (HFE.out w1 hb1); clear hb1) | (go_at_call 24; refine HF1.out.mono ?_; rintro e2 w2 ⟨⟨v2, rfl, ho2⟩, hm2, hu2⟩; have HR := Lib.hid (And.intro ho2 (And.intro hm2 hu2)); clear ho2 hm2 hu2))
  go_ret2
  exact ⟨⟨v2, rfl, HR.out.1.base HB1.out.size⟩, HR.out.2.1, (Upd.below HB1.out).trans HR.out.2.2⟩
set_option maxRecDepth 100000 in
set_option maxHeartbeats 1000000 in
theorem layG_is (h : MemG w M so fr sl m) (hs : m.S s = some b) (hwf : (Lit.int .i64 s).wf = true) (h0 : 0 ≤ pg) (h63 : pg < 64) (hF : m.F b pg = some (g, 3)) (hg : g ∈ m.pl) (hh : m.h g = true) (hu1 : m.u g = 1) (had : ad = 16 * pg) (hf : 0 ≤ fr ∧ fr ≤ 1000) (hsl : 0 ≤ sl ∧ sl ≤ 1000) (hpl : (m.pl.length : Int) ≤ fr + sl)
    {bb off cap : Nat} {xs : List Int} (hn : xs.length ≤ 16) (hb : bb < w.heap.size) (hbM : bb ≠ M) (hbg : bb ≠ g) (hcp : xs.length ≤ cap) (hcm : cap ≤ maxLen) (hc : ∀ i, i < xs.length → w.cell? ⟨bb, off + i, none⟩ = some (.int .u8 (xs.getD i 0))) :
    Calls Tryz.prog 23 #[.pointer (some ⟨M, 0, none⟩), .int .i64 s, .int .i64 ad, .slice (some ⟨bb, off, none⟩) xs.length cap] w fun e w' => e = .returned (.int .i64 0) ∧ MemG w' M so fr sl (m.dat g (dl (m.d g) xs xs.length)) ∧ Upd (fun k => k = M ∨ k = g) w w' := by
  have HM : Hid (MemG w M so fr sl (m.dat g (dl (m.d g) xs 0))) := Lib.hid (by
    have e : m.dat g (dl (m.d g) xs 0) = m := by unfold MS.dat; rw [dl_zero, fup_id _ _ _ rfl]
    rw [e]; exact h)
  have HX := Lib.hid (And.intro hs (And.intro hwf (And.intro hF (And.intro hg (And.intro hh hu1)))))
  have HC := Lib.hid hc
  have HBB := Lib.hid (And.intro hb (And.intro hbM hbg))
  have a0 : 0 ≤ ad := by omega
  have a1 : ad ≤ 1008 := by omega
  have HAD := Lib.hid had
  have HGM : Hid (g < w.heap.size ∧ M < w.heap.size) := Lib.hid ⟨h.lt (.inr (.inr (.inr (.inr hg)))), h.mlt⟩
  have HSH := Lib.hid (sharedG_is h hs hwf h0 h63 hF hg had (n := (xs.length : Nat)) (by omega) (by omega) hu1 (.inl rfl) (x := 0) (by rw [if_neg (by omega)]))
  have HRO := Lib.hid (roomG_is h 0 (by omega) hf hsl (by omega))
  rw [show decide ((0 : Int) ≤ fr + sl - m.pl.length) = true from decide_eq_true (by omega)] at HRO
  have hmx : (cap : Int) ≤ 9223372036854775807 := by unfold maxLen at hcm; omega
  clear h hs hwf hF hg hh had hc hcm hb hbM hbg hf hsl hpl hu1
  generalize hL : xs.length = L at *
  go_enter Tryz.func23, Tryz.ntmps23
  go_upto_region 3 with (first | (go_at_call 48; refine HSH.out.mono ?_; rintro e1 w1 ⟨rfl, rfl⟩) | (go_at_call 47; refine HRO.out.mono ?_; rintro e2 w2 ⟨rfl, hb2⟩))
  have HM1 := Lib.hid (HM.out.keep hb2)
  have HU1 : Hid (Upd (fun k => k = M ∨ k = g) w w2) := Lib.hid (Upd.below hb2)
  clear HM HSH HRO hb2
  go_wp2_with fail
  go_loopw [24] (fun kv wr => ∃ k : Nat, k ≤ L ∧ kv = .int .i64 k ∧ Hid (MemG wr M so fr sl (m.dat g (dl (m.d g) xs k))) ∧ Hid (Upd (fun k => k = M ∨ k = g) w wr)) (fun kv _ => L - (intOf kv).toNat)
  case atStart => exact ⟨0, Nat.zero_le _, rfl, HM1, HU1⟩
  case round =>
    clear HM1 HU1
    obtain ⟨k, hk0, rfl, HM, HU⟩ := hrel
    by_cases hk : k < L
    · have i1 : (k : Int) < (L : Int) := by omega
      have e0 := (HU.out.cell HBB.out.1 (b := bb) (o := off + k) (fun q => by rcases q with q | q; exact HBB.out.2.1 q; exact HBB.out.2.2 q)).trans (HC.out k hk)
      have m4 := HM.out.m4
      have l1 := HM.out.two (s := s) (b := b) HX.out.1 HX.out.2.1
      have l2 := HM.out.ent (s := s) (b := b) (pg := pg) HX.out.1 HX.out.2.2.1 h0 h63
      have y1 : IntKind.i64.wrap (ad + (k : Int)) = ad + k := IntWalk.i64_in _ (by omega)
      have q0 : (ad + (k : Int)).tdiv 16 = pg := by rw [td16 (by omega)]; have := HAD.out; omega
      have q1 : (ad + (k : Int)).tmod 16 = k := by rw [tm16 (by omega)]; have := HAD.out; omega
      have q2 : (ad + (k : Int)) / 16 = pg := by have := HAD.out; omega
      have q3 : (ad + (k : Int)) % 16 = k := by have := HAD.out; omega
      have y2 : IntKind.i64.wrap pg = pg := IntWalk.i64_in _ (by omega)
      have y3 : IntKind.i64.wrap (k : Int) = k := IntWalk.i64_in _ (by omega)
      have k16 : (k : Int) < 16 := by omega
      have k0 : (0 : Int) ≤ k := by omega
      have hal := Go.Joins.below_alloc1 wr (.cells #[.pointer (some ⟨g, 0, none⟩), .int .i64 3] 115)
      have hm2 := HM.out.keep hal
      have us := (hm2.pg g HX.out.2.2.2.1).us
      rw [show (m.dat g (dl (m.d g) xs k)).u g = 1 from HX.out.2.2.2.2.2] at us
      have HASK := Lib.hid (askG_here hm2 HX.out.2.2.2.1 HX.out.2.2.2.2.1)
      have HU2 := Lib.hid (HU.out.trans (Upd.below hal))
      have x0 : (wr.alloc (.cells #[.pointer (some ⟨g, 0, none⟩), .int .i64 3] 115)).cell? ⟨wr.heap.size, 0, none⟩ = some (.pointer (some ⟨g, 0, none⟩)) := cells_new wr [.pointer (some ⟨g, 0, none⟩), .int .i64 3] 115 0 _ rfl
      have hsz : wr.heap.size < (wr.alloc (.cells #[.pointer (some ⟨g, 0, none⟩), .int .i64 3] 115)).heap.size := by simp
      have hne : ¬ (wr.heap.size = M ∨ wr.heap.size = g) := by have := HU.out.size; have := HGM.out; omega
      have HK : Hid (k < 16) := Lib.hid (by omega)
      clear hm2 hal
      generalize hxk : xs.getD k 0 = xk at *
      have HXK := Lib.hid hxk
      clear hxk
      go_upto_region 13 with (go_at_call 50; refine HASK.out.mono ?_; rintro e3 w3 ⟨rfl, hm3, hu3⟩)
      have x3 := (hu3.cell hsz hne (o := 0)).trans x0
      have dc := (hm3.pg g HX.out.2.2.2.1).dc k HK.out
      have dz := (hm3.pg g HX.out.2.2.2.1).fz k
      have HM3 : Hid (∀ x, MemG (w3.setCell ⟨g, k, none⟩ (.int .u8 x)) M so fr sl (m.dat g (fun j => if j = k then x else dl (m.d g) xs k j))) := Lib.hid (fun x => by
        have q := hm3.dat HX.out.2.2.2.1 HK.out x
        have e : (m.dat g (dl (m.d g) xs k)).dat g (fun j => if j = k then x else (m.dat g (dl (m.d g) xs k)).d g j) = m.dat g (fun j => if j = k then x else dl (m.d g) xs k j) := by
          unfold MS.dat
          simp only [fup_same]
          congr 1
          funext z
          unfold fup
          split <;> rfl
        rw [e] at q
        exact q)
      have HU3 := Lib.hid (HU2.out.trans hu3)
      clear hm3 hu3 x0 hsz hne HASK HU2 us e0 l1 l2 m4
      go_wp2_with fail
      go_roundw
      case rel => exact ⟨k + 1, by omega, by go_num, Lib.hid (by have := HM3.out (xs.getD k 0); rw [dl_next, HXK.out] at this; exact this), Lib.hid (HU3.out.trans (Upd.set _ _ (.inr rfl)))⟩
      case measure => simp [intOf]; omega
    · obtain rfl : k = L := by omega
      go_wp2_with fail
      go_ret
      exact ⟨rfl, HM.out, HU.out⟩
end
end Go.Proofs.YtmdjkoiglghipaaGreatDoor
namespace Go.Proofs.YtmdjkoiglghipaaGreatDoor
open Go.RowKit Go.Maps
set_option linter.unusedVariables false
set_option linter.unusedSimpArgs false
theorem PgAt.ld16 {w : World} {g : Nat} {d : Nat → Int} {u : Int} {h : Bool} (p : PgAt w g d u h) : (ldR 119 (.pointer (some ⟨g, 0, none⟩))).run Tryz.prog w = .ok (.agg (by16 d)) w := by
  obtain ⟨C, hC⟩ := p.rw
  have hj : ∀ j, j < 16 → C[j]? = some (.int .u8 (d j)) := fun j hj => by rw [← hC.cell]; exact p.dc j hj
  have h16 : 16 ≤ C.size := by
    have := (Array.getElem?_eq_some_iff.1 (hj 15 (by decide))).1
    omega
  have := hC.ld (U := 119) (o := 0) (n := 16) (by omega) Tryz.underlying119 rfl (by kernel_rfl)
  have e : C.extract 0 (0 + 16) = by16 d := by
    apply Array.ext_getElem?
    intro j
    rw [Array.getElem?_extract]
    by_cases h : j < 16
    · rw [if_pos (by omega), Nat.zero_add, hj j h]
      have : j = 0 ∨ j = 1 ∨ j = 2 ∨ j = 3 ∨ j = 4 ∨ j = 5 ∨ j = 6 ∨ j = 7 ∨ j = 8 ∨ j = 9 ∨ j = 10 ∨ j = 11 ∨ j = 12 ∨ j = 13 ∨ j = 14 ∨ j = 15 := by omega
      rcases this with rfl | rfl | rfl | rfl | rfl | rfl | rfl | rfl | rfl | rfl | rfl | rfl | rfl | rfl | rfl | rfl <;> rfl
    · rw [if_neg (by omega), Array.getElem?_eq_none (by show (16 : Nat) ≤ j; omega)]
  rw [e] at this
  exact this
/-- the memory behind a page's copy: g2 stands in the place of g -/
structure Shd (B : Nat) (m m2 : MS) (b g g2 : Nat) (pg : Int) : Prop where
  S : m2.S = m.S
  F : m2.F b pg = some (g2, 3)
  Fo : ∀ b', b' ≠ b → m2.F b' = m.F b'
  p2 : g2 ∈ m2.pl
  h2 : m2.h g2 = true
  u2 : m2.u g2 = 1
  p1 : g ∈ m2.pl
  d1 : m2.d g = m.d g
  h1 : m2.h g = true
  bB : B ≤ g2
  mb : ∀ M so j, mB M so m2 j → mB M so m j ∨ B ≤ j
section
variable {w w' : World} {M so g g2 b B : Nat} {fr sl s pg ad : Int} {m m2 : MS}
theorem Shd.dat (h : Shd B m m2 b g g2 pg) (hg : g < B) (d : Nat → Int) : Shd B m (m2.dat g2 d) b g g2 pg := by
  have := h.bB
  exact ⟨h.S, h.F, h.Fo, h.p2, h.h2, h.u2, h.p1, by show fup m2.d g2 d g = _; rw [fup_off _ _ (by omega)]; exact h.d1, h.h1, h.bB, h.mb⟩
theorem mB_add {v : Value} {d : Nat → Int} {u : Nat → Int} {j : Nat} (hj : mB M so (({ m with u := u } : MS).add v g2 d) j) : mB M so m j ∨ j = g2 ∨ v.ownBlock = some j := by
  rcases hj with q | q | q | q | q
  · exact .inl (.inl q)
  · exact .inl (.inr (.inl q))
  · exact .inr (.inr q)
  · exact .inl (.inr (.inr (.inr (.inl q))))
  · have q : j ∈ m.pl ++ [g2] := q
    rcases List.mem_append.1 q with q | q
    · exact .inl (.inr (.inr (.inr (.inr q))))
    · exact .inr (.inl (by simpa using q))
/-- the copy -/
theorem shd_new (h : MemG w M so fr sl m) (hs : m.S s = some b) (hF : m.F b pg = some (g, 3)) (hg : g ∈ m.pl) (hh : m.h g = true) {v : Value} (h2 : w.heap.size ≤ g2) (hv : v.ownBlock = m.pv.ownBlock ∨ ∃ b, w.heap.size ≤ b ∧ v.ownBlock = some b) {n : Nat} :
    Shd w.heap.size m { ({ m with u := fup m.u g 1 } : MS).add v g2 (m.d g) with nF := fup m.nF b n, F := fup m.F b (fun j => if j = pg then some (g2, 3) else m.F b j) } b g g2 pg := by
  have hgl := h.lt (.inr (.inr (.inr (.inr hg))))
  refine ⟨rfl, ?_, fun b' hb => ?_, by show g2 ∈ m.pl ++ [g2]; simp, by show fup m.h g2 true g2 = true; rw [fup_same], by show fup (fup m.u g 1) g2 1 g2 = 1; rw [fup_same], by show g ∈ m.pl ++ [g2]; simp [hg], ?_, ?_, h2, fun M so j hj => ?_⟩
  · show fup m.F b _ b pg = _
    rw [fup_same, if_pos rfl]
  · show fup m.F b _ b' = _
    rw [fup_off _ _ hb]
  · show fup m.d g2 (m.d g) g = _
    rw [fup_off _ _ (by omega)]
  · show fup m.h g2 true g = true
    rw [fup_off _ _ (by omega)]; exact hh
  · rcases mB_add (u := fup m.u g 1) (v := v) (d := m.d g) (g2 := g2) (m := m) (show mB M so (({ m with u := fup m.u g 1 } : MS).add v g2 (m.d g)) j from hj) with q | q | q
    · exact .inl q
    · exact .inr (by omega)
    · rcases hv with e | ⟨b, e1, e2⟩
      · exact .inl (.inr (.inr (.inl (by rw [← e]; exact q))))
      · rw [q] at e2; injection e2 with e2; exact .inr (by omega)
attribute [local go_sem ↓] ld_16
set_option maxRecDepth 100000 in
set_option maxHeartbeats 2000000 in
theorem layS_is (h : MemG w M so fr sl m) (hs : m.S s = some b) (hwf : (Lit.int .i64 s).wf = true) (h0 : 0 ≤ pg) (h63 : pg < 64) (hF : m.F b pg = some (g, 3)) (hg : g ∈ m.pl) (hh : m.h g = true) (hu1 : m.u g = 2) (had : ad = 16 * pg) (hf : 0 ≤ fr ∧ fr ≤ 1000) (hsl : 0 ≤ sl ∧ sl ≤ 1000) (hpl : (m.pl.length : Int) + 1 ≤ fr + sl) (hct : (m.pl.countP m.h : Int) < fr) (hnF : m.nF b < 10000)
    {bb off cap : Nat} {xs : List Int} (hn0 : 1 ≤ xs.length) (hn : xs.length ≤ 16) (hb : bb < w.heap.size) (hbm : ¬ mB M so m bb) (hcp : xs.length ≤ cap) (hcm : cap ≤ maxLen) (hc : ∀ i, i < xs.length → w.cell? ⟨bb, off + i, none⟩ = some (.int .u8 (xs.getD i 0))) :
    Calls Tryz.prog 23 #[.pointer (some ⟨M, 0, none⟩), .int .i64 s, .int .i64 ad, .slice (some ⟨bb, off, none⟩) xs.length cap] w fun e w' => e = .returned (.int .i64 0) ∧ ∃ m2 g2, MemG w' M so fr sl m2 ∧ Shd w.heap.size m m2 b g g2 pg ∧ Upd (mB M so m) w w' := by
  have HX := Lib.hid (And.intro hs (And.intro hwf (And.intro hF (And.intro hg (And.intro hh hu1)))))
  have HC := Lib.hid hc
  have HBB := Lib.hid (And.intro hb hbm)
  have HCT := Lib.hid (And.intro hct (And.intro hpl (And.intro hnF (And.intro hf.2 hsl.2))))
  have a0 : 0 ≤ ad := by omega
  have a1 : ad ≤ 1008 := by omega
  have HAD := Lib.hid had
  have HGM : Hid (g < w.heap.size ∧ M < w.heap.size) := Lib.hid ⟨h.lt (.inr (.inr (.inr (.inr hg)))), h.mlt⟩
  have HSH := Lib.hid (sharedG_is h hs hwf h0 h63 hF hg had (n := (xs.length : Nat)) (by omega) (by omega) hu1 (.inr rfl) (x := 1) (by rw [if_pos (by omega)]))
  have HRO := Lib.hid (roomG_is h 1 (by omega) hf hsl (by omega))
  rw [show decide ((1 : Int) ≤ fr + sl - m.pl.length) = true from decide_eq_true (by omega)] at HRO
  have hmx : (cap : Int) ≤ 9223372036854775807 := by unfold maxLen at hcm; omega
  have HM := Lib.hid h
  have HH := Lib.hid h
  have HN := Lib.hid hn0
  clear h hs hwf hF hg hh had hc hcm hb hbm hf hsl hpl hu1 hct hnF
  generalize hL : xs.length = L at *
  go_enter Tryz.func23, Tryz.ntmps23
  go_upto_region 3 with (first | (go_at_call 48; refine HSH.out.mono ?_; rintro e1 w1 ⟨rfl, rfl⟩) | (go_at_call 47; refine HRO.out.mono ?_; rintro e2 w2 ⟨rfl, hb2⟩))
  have HM1 := Lib.hid (HM.out.keep hb2)
  have HU1 : Hid (Upd (mB M so m) w w2) := Lib.hid (Upd.below hb2)
  clear HM HSH HRO hb2
  go_wp2_with fail
  go_loopw [24] (fun kv wr => ∃ k : Nat, k ≤ L ∧ kv = .int .i64 k ∧ Hid (Upd (mB M so m) w wr) ∧ Hid ((k = 0 ∧ MemG wr M so fr sl m) ∨ (1 ≤ k ∧ ∃ m2 g2, MemG wr M so fr sl m2 ∧ Shd w.heap.size m m2 b g g2 pg))) (fun kv _ => L - (intOf kv).toNat)
  case atStart => exact ⟨0, Nat.zero_le _, rfl, HU1, Lib.hid (.inl ⟨rfl, HM1.out⟩)⟩
  case round =>
    clear HM1 HU1
    obtain ⟨k, hk0, rfl, HU, HD⟩ := hrel
    by_cases hk : k < L
    · have i1 : (k : Int) < (L : Int) := by omega
      have e0 := (HU.out.cell HBB.out.1 (b := bb) (o := off + k) HBB.out.2).trans (HC.out k hk)
      have y1 : IntKind.i64.wrap (ad + (k : Int)) = ad + k := IntWalk.i64_in _ (by omega)
      have q0 : (ad + (k : Int)).tdiv 16 = pg := by rw [td16 (by omega)]; have := HAD.out; omega
      have q1 : (ad + (k : Int)).tmod 16 = k := by rw [tm16 (by omega)]; have := HAD.out; omega
      have q2 : (ad + (k : Int)) / 16 = pg := by have := HAD.out; omega
      have q3 : (ad + (k : Int)) % 16 = k := by have := HAD.out; omega
      have y2 : IntKind.i64.wrap pg = pg := IntWalk.i64_in _ (by omega)
      have y3 : IntKind.i64.wrap (k : Int) = k := IntWalk.i64_in _ (by omega)
      have k16 : (k : Int) < 16 := by omega
      have k0 : (0 : Int) ≤ k := by omega
      have HK : Hid (k < 16) := Lib.hid (by omega)
      generalize hxk : xs.getD k 0 = xk at *
      have HXK := Lib.hid hxk
      clear hxk
      by_cases hk1 : k = 0
      · have HM : Hid (MemG wr M so fr sl m) := Lib.hid (by
          rcases HD.out with q | ⟨q, _⟩
          · exact q.2
          · omega)
        have HK1 := Lib.hid hk1
        clear HD hk1
        have m4 := HM.out.m4
        have l1 := HM.out.two (s := s) (b := b) HX.out.1 HX.out.2.1
        have l2 := HM.out.ent (s := s) (b := b) (pg := pg) HX.out.1 HX.out.2.2.1 h0 h63
        have hal := Go.Joins.below_alloc1 wr (.cells #[.pointer (some ⟨g, 0, none⟩), .int .i64 3] 115)
        have hm2 := HM.out.keep hal
        have us := (hm2.pg g HX.out.2.2.2.1).us
        have uz := (hm2.pg g HX.out.2.2.2.1).fz 16
        rw [HX.out.2.2.2.2.2] at us
        have x0 : (wr.alloc (.cells #[.pointer (some ⟨g, 0, none⟩), .int .i64 3] 115)).cell? ⟨wr.heap.size, 0, none⟩ = some (.pointer (some ⟨g, 0, none⟩)) := cells_new wr [.pointer (some ⟨g, 0, none⟩), .int .i64 3] 115 0 _ rfl
        have x1 : (wr.alloc (.cells #[.pointer (some ⟨g, 0, none⟩), .int .i64 3] 115)).cell? ⟨wr.heap.size, 1, none⟩ = some (.int .i64 3) := cells_new wr [.pointer (some ⟨g, 0, none⟩), .int .i64 3] 115 1 _ rfl
        have xz : ∀ j, (wr.alloc (.cells #[.pointer (some ⟨g, 0, none⟩), .int .i64 3] 115)).frozen? ⟨wr.heap.size, j, none⟩ = false := fun j => (row_new wr 115 #[.pointer (some ⟨g, 0, none⟩), .int .i64 3]).fz j
        have hsz : wr.heap.size < (wr.alloc (.cells #[.pointer (some ⟨g, 0, none⟩), .int .i64 3] 115)).heap.size := by simp
        have HU2 := Lib.hid (HU.out.trans (Upd.below (S := mB M so m) hal))
        have HE0 : Hid (wr.heap.size ≠ g ∧ wr.heap.size ≠ M) := Lib.hid (by have := HU.out.size; have := HGM.out; omega)
        have HE1 : Hid (∀ j, mB M so m j → j < wr.heap.size) := Lib.hid (fun j hj => HM.out.lt hj)
        have HEW := Lib.hid HU.out.size
        have HM2 := Lib.hid hm2
        clear hm2 hal HM HU
        go_upto_region 8 with fail
        generalize wr.heap.size = e at *
        generalize wr.alloc (.cells #[.pointer (some ⟨g, 0, none⟩), .int .i64 3] 115) = w3 at *
        have hm3 := HM2.out.page HX.out.2.2.2.1 (Upd.set w3 (b := g) (i := 16) (.int .i64 1) (S := fun k => k = g) rfl) ((HM2.out.pg g HX.out.2.2.2.1).users 1)
        have ee : ({ m with d := fup m.d g (m.d g), u := fup m.u g 1, h := fup m.h g (m.h g) } : MS) = { m with u := fup m.u g 1 } := by rw [fup_id m.d g _ rfl, fup_id m.h g _ rfl]
        rw [ee] at hm3
        have x0b : (w3.setCell ⟨g, 16, none⟩ (.int .i64 1)).cell? ⟨e, 0, none⟩ = some (.pointer (some ⟨g, 0, none⟩)) := set_blk HE0.out.1 x0
        have x1b : (w3.setCell ⟨g, 16, none⟩ (.int .i64 1)).cell? ⟨e, 1, none⟩ = some (.int .i64 3) := set_blk HE0.out.1 x1
        have xzb : ∀ j, (w3.setCell ⟨g, 16, none⟩ (.int .i64 1)).frozen? ⟨e, j, none⟩ = false := fun j => by rw [World.frozen?_setCell]; exact xz j
        have l16 := (hm3.pg g HX.out.2.2.2.1).ld16
        change (ldR 119 (.pointer (some ⟨g, 0, none⟩))).run Tryz.prog _ = .ok (.agg (by16 (m.d g))) _ at l16
        have HAP := Lib.hid (addPg_is hm3 (m.d g) HCT.out.1 (by show m.pl.length < 100000; have := HCT.out; omega))
        have HU3 := Lib.hid (HU2.out.trans (Upd.set w3 (b := g) (i := 16) (.int .i64 1) (S := mB M so m) (.inr (.inr (.inr (.inr HX.out.2.2.2.1))))))
        have hsz3 : e < (w3.setCell ⟨g, 16, none⟩ (.int .i64 1)).heap.size := by simpa [World.setCell] using hsz
        have HM3 := Lib.hid hm3
        clear hm3 ee HU2
        generalize by16 (m.d g) = D at *
        go_upto_region 10 with fail
        generalize w3.setCell ⟨g, 16, none⟩ (.int .i64 1) = w4 at *
        clear x0 x1 xz hsz us uz l1 l2 m4 e0
        go_upto_region 11 with (go_at_call 49; refine HAP.out.mono ?_; rintro e5 w5 ⟨g2, v, rfl, hg2, hm5, hv5, hu5⟩; have z5 := (hu5.frozen hsz3 (b := e) (o := 0) (fun q => by rcases q with q | q; exact HE0.out.2 q; exact Nat.lt_irrefl _ (HE1.out e (.inr (.inr (.inl q)))))).trans (xzb 0); have c5 := (hu5.cell hsz3 (b := e) (o := 0) (fun q => by rcases q with q | q; exact HE0.out.2 q; exact Nat.lt_irrefl _ (HE1.out e (.inr (.inr (.inl q)))))).trans x0b; have c51 := (hu5.cell hsz3 (b := e) (o := 1) (fun q => by rcases q with q | q; exact HE0.out.2 q; exact Nat.lt_irrefl _ (HE1.out e (.inr (.inr (.inl q)))))).trans x1b)
        have HU5 := Lib.hid (HU3.out.trans (hu5.mono (S' := mB M so m) (fun j _ q => by rcases q with q | q; exact .inl q; exact .inr (.inr (.inl q)))))
        have hsz5 : e < w5.heap.size := Nat.lt_of_lt_of_le hsz3 hu5.size
        have HGE : Hid (w.heap.size ≤ g2 ∧ e < g2) := Lib.hid (by
          have := HU3.out.size
          exact ⟨Nat.le_trans this hg2, Nat.lt_of_lt_of_le hsz3 hg2⟩)
        have hm6 := hm5.upd (Upd.set w5 (b := e) (i := 0) (.pointer (some ⟨g2, 0, none⟩)) (S := fun j => j = e) rfl) (fun j hj q => by
          subst q
          rcases mB_add hj with q | q | q
          · exact Nat.lt_irrefl _ (HE1.out _ q)
          · have := HGE.out; omega
          · rcases hv5 with q2 | ⟨b5, q2, q3⟩
            · rw [q] at q2; exact Nat.lt_irrefl _ (HE1.out _ (.inr (.inr (.inl q2.symm))))
            · rw [q] at q3; injection q3 with q3; omega)
        have y0 : (w5.setCell ⟨e, 0, none⟩ (.pointer (some ⟨g2, 0, none⟩))).cell? ⟨e, 0, none⟩ = some (.pointer (some ⟨g2, 0, none⟩)) := set_same c5
        have y1 : (w5.setCell ⟨e, 0, none⟩ (.pointer (some ⟨g2, 0, none⟩))).cell? ⟨e, 1, none⟩ = some (.int .i64 3) := set_off (by decide) c51
        have HU6 := Lib.hid (HU5.out.trans' (Upd.set w5 (b := e) (i := 0) (.pointer (some ⟨g2, 0, none⟩)) (S := fun j => j = e) rfl) (fun j hj q => by subst q; have := HEW.out; omega))
        have hsz6 : e < (w5.setCell ⟨e, 0, none⟩ (.pointer (some ⟨g2, 0, none⟩))).heap.size := by simpa [World.setCell] using hsz5
        have HV5 : Hid (v.ownBlock = m.pv.ownBlock ∨ ∃ b, w.heap.size ≤ b ∧ v.ownBlock = some b) := Lib.hid (by
          rcases hv5 with q | ⟨b5, q2, q3⟩
          · exact .inl q
          · exact .inr ⟨b5, by have := HU3.out.size; omega, q3⟩)
        clear hm5 hv5 hu5 c5 c51 z5 HU5 hsz5 x0b x1b xzb hsz3 HAP l16 HM3 HU3 HM2
        generalize w5.setCell ⟨e, 0, none⟩ (.pointer (some ⟨g2, 0, none⟩)) = w6 at *
        have hm6d := hm6.drew
        have m4 := hm6d.m4
        have l1 := hm6d.two (s := s) (b := b) HX.out.1 HX.out.2.1
        obtain ⟨w7, hput, hi7, hg7⟩ := (hm6d.im s b HX.out.1).put (k := pg) (WalkArith.wf_i64 (by omega)) (by show m.nF b < maxLen; have := HCT.out; unfold maxLen; omega) g2 3
        change (Instr.mapUpdate 80 (.map (some b)) (.int .i64 pg) (.agg #[.pointer (some ⟨g2, 0, none⟩), .int .i64 3])).run Tryz.prog _ = _ at hput
        have hm7 := hm6d.space HX.out.1 (Upd.grown hg7 rfl) hi7
        have heb : e ≠ b := fun q => Nat.lt_irrefl _ (HE1.out e (.inr (.inr (.inr (.inl ⟨s, by rw [q]; exact HX.out.1⟩)))))
        have y0c : w6.drew.cell? ⟨e, 0, none⟩ = some (.pointer (some ⟨g2, 0, none⟩)) := y0
        have y1c : w6.drew.cell? ⟨e, 1, none⟩ = some (.int .i64 3) := y1
        have hsz7 : e < w6.drew.heap.size := hsz6
        have z0 := (grown_cell hg7 hsz7 (b := e) (o := 0) (by intro q; injection q with q; exact heb q)).trans y0c
        have HU7 := Lib.hid ((HU6.out.trans (Upd.drew w6)).trans (Upd.grown hg7 (S := mB M so m) (.inr (.inr (.inr (.inl ⟨s, HX.out.1⟩))))))
        have hsh := shd_new HH.out HX.out.1 HX.out.2.2.1 HX.out.2.2.2.1 HX.out.2.2.2.2.1 (v := v) HGE.out.1 HV5.out (n := m.nF b + 1) (pg := pg)
        have HSH := Lib.hid hsh
        have HASK := Lib.hid (askG_here (hm7 : MemG w7 M so fr sl _) hsh.p2 hsh.h2)
        have hsz8 : e < w7.heap.size := Nat.lt_of_lt_of_le hsz7 hg7.size
        have HM7 := Lib.hid hm7
        clear hm6 hm6d hi7 hg7 hm7 hsh y0 y1 hsz6 hsz7 heb
        go_still_tail 8, (by kernel_rfl)
        change wpList _ _ _ _ _ w6.drew
        generalize w6.drew = w6d at *
        go_upto_region 13 with (go_at_call 50; refine HASK.out.mono ?_; rintro e8 w8 ⟨rfl, hm8, hu8⟩)
        have z8 := (hu8.cell hsz8 (b := e) (o := 0) (fun q => by rcases q with q | q; exact HE0.out.2 q; have := HGE.out; omega)).trans z0
        have dc := (hm8.pg g2 HSH.out.p2).dc k HK.out
        have dz := (hm8.pg g2 HSH.out.p2).fz k
        have HM9 := Lib.hid (fun x => hm8.dat HSH.out.p2 HK.out x)
        have HU8 := Lib.hid (HU7.out.trans' hu8 (fun j hj q => by rcases q with q | q; exact .inl q; have := HGE.out; omega))
        clear hm8 hu8 z0 hput l1 m4 HASK HM7 HU7 hsz8
        go_wp2_with fail
        go_roundw
        case rel => exact ⟨k + 1, by omega, by go_num, Lib.hid (HU8.out.trans' (Upd.set _ (b := g2) (i := k) _ (S := fun j => j = g2) rfl) (fun j hj q => by have := HGE.out; omega)), Lib.hid (.inr ⟨by omega, _, g2, HM9.out _, HSH.out.dat HGM.out.1 _⟩)⟩
        case measure => simp [intOf]; omega
      · obtain ⟨m2, g2, hM, hS⟩ : ∃ m2 g2, MemG wr M so fr sl m2 ∧ Shd w.heap.size m m2 b g g2 pg := by
          rcases HD.out with q | ⟨_, q⟩
          · exact absurd q.1 hk1
          · exact q
        have HM := Lib.hid hM
        have HSH := Lib.hid hS
        clear HD hk1 hM hS
        have m4 := HM.out.m4
        have l1 := HM.out.two (s := s) (b := b) (by rw [HSH.out.S]; exact HX.out.1) HX.out.2.1
        have l2 := HM.out.ent (s := s) (b := b) (pg := pg) (by rw [HSH.out.S]; exact HX.out.1) HSH.out.F h0 h63
        have hal := Go.Joins.below_alloc1 wr (.cells #[.pointer (some ⟨g2, 0, none⟩), .int .i64 3] 115)
        have hm2 := HM.out.keep hal
        have us := (hm2.pg g2 HSH.out.p2).us
        rw [HSH.out.u2] at us
        have HASK := Lib.hid (askG_here hm2 HSH.out.p2 HSH.out.h2)
        have HU2 := Lib.hid (HU.out.trans (Upd.below hal))
        have x0 : (wr.alloc (.cells #[.pointer (some ⟨g2, 0, none⟩), .int .i64 3] 115)).cell? ⟨wr.heap.size, 0, none⟩ = some (.pointer (some ⟨g2, 0, none⟩)) := cells_new wr [.pointer (some ⟨g2, 0, none⟩), .int .i64 3] 115 0 _ rfl
        have hsz : wr.heap.size < (wr.alloc (.cells #[.pointer (some ⟨g2, 0, none⟩), .int .i64 3] 115)).heap.size := by simp
        have hne : ¬ (wr.heap.size = M ∨ wr.heap.size = g2) := by have := HM.out.lt (.inl rfl); have := HM.out.lt (.inr (.inr (.inr (.inr HSH.out.p2)))); omega
        clear hm2 hal
        go_upto_region 13 with (go_at_call 50; refine HASK.out.mono ?_; rintro e3 w3 ⟨rfl, hm3, hu3⟩)
        have x3 := (hu3.cell hsz hne (o := 0)).trans x0
        have dc := (hm3.pg g2 HSH.out.p2).dc k HK.out
        have dz := (hm3.pg g2 HSH.out.p2).fz k
        have HM3 := Lib.hid (fun x => hm3.dat HSH.out.p2 HK.out x)
        have HU3 := Lib.hid (HU2.out.trans' hu3 (fun j hj q => by rcases q with q | q; exact .inl q; have := HSH.out.bB; omega))
        clear hm3 hu3 x0 hsz hne HASK HU2 us e0 l1 l2 m4
        go_wp2_with fail
        go_roundw
        case rel => exact ⟨k + 1, by omega, by go_num, Lib.hid (HU3.out.trans' (Upd.set _ (b := g2) (i := k) _ (S := fun j => j = g2) rfl) (fun j hj q => by have := HSH.out.bB; omega)), Lib.hid (.inr ⟨by omega, _, g2, HM3.out _, HSH.out.dat HGM.out.1 _⟩)⟩
        case measure => simp [intOf]; omega
    · obtain rfl : k = L := by omega
      go_wp2_with fail
      go_ret
      refine ⟨rfl, ?_⟩
      rcases HD.out with q | ⟨_, m2, g2, q1, q2⟩
      · have := HN.out; omega
      · exact ⟨m2, g2, q1, q2, HU.out⟩
end
end Go.Proofs.YtmdjkoiglghipaaGreatDoor
