/- The walk of box.Nest. -/
import Derived.Test.YtgdihccmkleimaaBoxNestPlain
import Derived.Test.YtgdihccmkleimaaBoxBack
namespace Go.Proofs.Ytgdihccmkleimaa.BoxLaw
open Go.RowKit

theorem info99 : (Try.prog.info? 99).map (fun i => (i.zero, i.size, i.bytes)) = some (some (.agg #[.int .i64 0, .int .i64 0, .int .i64 0]), 3, 24) := by kernel_rfl

theorem ownsRow_below {w w' : World} {base : Nat} {e : TypeId} {size : Nat} {v : Value} {n : Nat} {xs : List Value} (h : w.ownsRow base e size v n xs) (hb : Below w.heap.size w w') : w'.ownsRow base e size v n xs :=
  h.kept (row := none) ⟨hb.os, hb.tape, hb.output, hb.size, fun k hk _ => hb.block k hk⟩ (by cases hv : v.ownBlock <;> simp)

def cellsR (l : List Rg) : List Value := l.flatMap fun e => [.int .i64 e.a, .int .i64 e.b, .int .i64 e.n]
theorem cellsR_snoc (l : List Rg) (e : Rg) : cellsR (l ++ [e]) = cellsR l ++ [.int .i64 e.a, .int .i64 e.b, .int .i64 e.n] := by simp [cellsR]
theorem cellsR_length (l : List Rg) : (cellsR l).length = l.length * 3 := by
  induction l with
  | nil => rfl
  | cons e t ih => simp only [cellsR, List.flatMap_cons, List.length_append] at *; rw [ih]; simp; omega
theorem cellsR_at (l : List Rg) : ∀ i, i < l.length → (cellsR l)[i * 3]? = some (.int .i64 (l.getD i r0).a) ∧ (cellsR l)[i * 3 + 1]? = some (.int .i64 (l.getD i r0).b) ∧ (cellsR l)[i * 3 + 2]? = some (.int .i64 (l.getD i r0).n) := by
  induction l with
  | nil => intro i h; simp at h
  | cons e t ih =>
    intro i h
    cases i with
    | zero => exact ⟨rfl, rfl, rfl⟩
    | succ i =>
      obtain ⟨h1, h2, h3⟩ := ih i (by simpa using h)
      have e1 : (i + 1) * 3 = i * 3 + 3 := by omega
      have c : cellsR (e :: t) = .int .i64 e.a :: .int .i64 e.b :: .int .i64 e.n :: cellsR t := rfl
      rw [e1, c]
      exact ⟨by simpa using h1, by simpa using h2, by simpa using h3⟩

theorem isL_of_owned {w : World} {base : Nat} {v : Value} {l : List Rg} (h : w.ownsRow base 99 3 v l.length (cellsR l)) : IsL w v l := by
  rcases h.2 with ⟨rfl, hn⟩ | ⟨g, cap, cur, rfl, hb, hg, hnc, hcm, hcs, htake⟩
  · have : l = [] := List.eq_nil_of_length_eq_zero hn
    subst this
    exact ⟨none, 0, rfl, Nat.le_refl _, .inl rfl⟩
  · refine ⟨some ⟨g, 0, none⟩, cap, rfl, hnc, .inr ⟨g, 0, rfl, ?_, ?_, ?_, ?_⟩⟩
    · exact (Array.getElem?_eq_some_iff.1 hg).1
    all_goals
      intro i hi
      have hc := cellsR_at l i hi
      have hcl := h.cells (g := g) rfl
    · have := hcl _ _ hc.1
      rw [Addr.add_lit] at this
      simpa using this
    · have := hcl _ _ hc.2.1
      rw [Addr.add_lit] at this
      simpa using this
    · have := hcl _ _ hc.2.2
      rw [Addr.add_lit] at this
      simpa using this

theorem toF_range {l : List Rg} (hc : chk l = 0) {x y : Int} (h : toF l x = some y) : 0 ≤ y ∧ y < 100 := by
  obtain ⟨r, hr, hx, rfl⟩ := toF_mem h
  have := (okR_iff r).1 (((chk_zero l).1 hc).2.ok r hr)
  rw [inA_iff] at hx
  omega

def NestPost (outer inner : List Rg) (w : World) (e : Ending) (w' : World) : Prop :=
  ∃ (v : Value) (en : Int), e = .returned (.tuple #[v, .int .i64 en]) ∧ Below w.heap.size w w' ∧
    ((en ≠ 0 ∧ v = .slice none 0 0) ∨ (en = 0 ∧ chk outer = 0 ∧ chk inner = 0 ∧ ∃ segs, segs.length ≤ 4 ∧ NInv outer inner inner.length 0 segs ∧ IsL w' v segs))

theorem nestPost_bad {outer inner : List Rg} {w w' : World} {en : Int} (h : en ≠ 0) (hb : Below w.heap.size w w') : NestPost outer inner w (.returned (.tuple #[.slice none 0 0, .int .i64 en])) w' :=
  ⟨_, en, rfl, hb, .inl ⟨h, rfl⟩⟩

set_option maxRecDepth 100000 in
set_option maxHeartbeats 2000000 in
theorem nest_some (b off cap : Nat) (outer inner : List Rg) (v0 : Value) (w : World) (hO : IsL w v0 outer) (hl : inner.length ≤ cap) (hL : Lies w b off inner) :
    Calls Try.prog 21 #[v0, .slice (some ⟨b, off, none⟩) inner.length cap] w (NestPost outer inner w) := by
  have hcheck := check_any b off cap inner w hl hL
  have hcheck' := fun (w1 : World) (h : Below w.heap.size w w1) => check_any b off cap inner w1 hl (hL.below h hL.lt)
  obtain ⟨n, hn⟩ : ∃ n, n = inner.length := ⟨_, rfl⟩
  rw [← hn] at hl hcheck' ⊢
  have HO := Lib.hid hO
  have HL := Lib.hid hL
  have HN := Lib.hid hn
  have HK := Lib.hid hcheck'
  clear hO hL hn hcheck hcheck'
  obtain ⟨i0, hi, hz0, hz1, hz2⟩ := info_parts info99
  by_cases hco : chk outer = 0
  · have hone : (chk outer != 0) = false := by simp [hco]
    have HCO := Lib.hid hco
    clear hco
    by_cases hci : chk inner = 0
    · have hine : (chk inner != 0) = false := by simp [hci]
      have h4 := ((chk_zero inner).1 hci).1
      rw [← HN.out] at h4
      have HCI := Lib.hid hci
      clear hci
      go_enter Try.func21, Try.ntmps21
      go_wp2_with fail
      refine (check_is HO.out).mono ?_
      rintro e w1 ⟨rfl, hb1⟩
      go_wp2_with fail
      refine (HK.out _ hb1).mono ?_
      rintro e w2 ⟨rfl, hb2⟩
      have hb12 := hb1.trans (hb2.mono hb1.size)
      clear hb1 hb2
      go_wp2_with fail
      go_loopw [8, 29] (fun out i wr => ∃ (k : Nat) (segs : List Rg), k ≤ n ∧ i = .int .i64 k ∧ Below w.heap.size w wr ∧ wr.ownsRow w.heap.size 99 3 out segs.length (cellsR segs) ∧ Hid (NInv outer inner k 0 segs)) (fun _ i _ => n - (intOf i).toNat)
      case atStart => exact ⟨0, [], Nat.zero_le _, rfl, hb12, World.ownsRow_nil _ _ _ _, ninv_start _ _⟩
      case round =>
        obtain ⟨k, segs, hk, rfl, hbel, hown, HV⟩ := hrel
        by_cases hlt : k < n
        · obtain ⟨r, hr⟩ : ∃ r, r = inner.getD k r0 := ⟨_, rfl⟩
          have hoo := fine_at HCI.out k (by rw [← HN.out]; exact hlt)
          have g1 := (hbel.cell (p := ⟨b, off + k * 3, none⟩) HL.out.lt).trans (HL.out.ca k (by rw [← HN.out]; exact hlt))
          have g2 := (hbel.cell (p := ⟨b, off + k * 3 + 1, none⟩) HL.out.lt).trans (HL.out.cb k (by rw [← HN.out]; exact hlt))
          have g3 := (hbel.cell (p := ⟨b, off + k * 3 + 2, none⟩) HL.out.lt).trans (HL.out.cn k (by rw [← HN.out]; exact hlt))
          rw [← hr] at g1 g2 g3 hoo
          obtain ⟨p1, p2, p3, p4, p5, p6⟩ := (okR_iff r).1 hoo
          have HR := Lib.hid hr
          clear hr hoo
          obtain ⟨wo, rfl⟩ : ∃ wo : World, wo = wr := ⟨_, rfl⟩
          have hob : ∀ g, u8.ownBlock = some g → g < wo.heap.size := fun g hg => (hown.lt g hg).2
          have HOB := Lib.hid hob
          clear hob
          go_wp2_with fail
          go_loopw [8, 11] (fun out kv wi => ∃ (kk : Int) (segs : List Rg), 0 ≤ kk ∧ kk ≤ r.n ∧ kv = .int .i64 kk ∧ Below w.heap.size w wi ∧ wo.heap.size < wi.heap.size ∧ wi.ownsRow w.heap.size 99 3 out segs.length (cellsR segs) ∧ Hid (∀ g, out.ownBlock = some g → g ≠ wo.heap.size) ∧
              wi.cell? ⟨wo.heap.size, 0, none⟩ = some (.int .i64 r.a) ∧ wi.cell? ⟨wo.heap.size, 1, none⟩ = some (.int .i64 r.b) ∧ wi.cell? ⟨wo.heap.size, 2, none⟩ = some (.int .i64 r.n) ∧ Hid (NInv outer inner k kk segs))
            (fun _ kv _ => (r.n - intOf kv).toNat)
          case atStart =>
            exact ⟨0, segs, by omega, by omega, rfl, hbel.alloc hbel.size _, by simp, hown.alloc _, fun g hg => Nat.ne_of_lt (HOB.out g hg), by simp, by simp, by simp, HV⟩
          case round =>
            clear hown HV HOB hbel g1 g2 g3
            obtain ⟨kk, segs, hk0, hk1, rfl, hbel, hsz, hown, HNE, c1, c2, c3, HV⟩ := hrel
            by_cases hkn : kk < r.n
            · cases hto : toF outer (r.b + kk) with
              | none =>
                have HT := Lib.hid (toR_miss HCO.out hto)
                clear hto
                go_wp2_with fail
                refine (to_is _ (HO.out.below hbel)).mono ?_
                rintro e w3 ⟨rfl, hb3⟩
                rw [HT.out]
                go_wp2
                go_ret2
                exact nestPost_bad (by decide) (hbel.trans (hb3.mono hbel.size))
              | some nn =>
                have hnr := toF_range HCO.out hto
                obtain ⟨n0, n1⟩ := hnr
                have HT := Lib.hid (toR_hit HCO.out hto)
                have HT0 := Lib.hid hto
                clear hto
                go_wp2_with fail
                refine (to_is _ (HO.out.below hbel)).mono ?_
                rintro e w3 ⟨rfl, hb3⟩
                rw [HT.out]
                have c1' := (hb3.cell (p := ⟨wo.heap.size, 0, none⟩) hsz).trans c1
                have c2' := (hb3.cell (p := ⟨wo.heap.size, 1, none⟩) hsz).trans c2
                have c3' := (hb3.cell (p := ⟨wo.heap.size, 2, none⟩) hsz).trans c3
                have hown3 := ownsRow_below hown hb3
                have hbel3 := hbel.trans (hb3.mono hbel.size)
                have hsz3 := Nat.lt_of_lt_of_le hsz hb3.size
                clear hown hbel c1 c2 c3 hb3
                obtain ⟨wm, rfl⟩ : ∃ wm : World, wm = w3 := ⟨_, rfl⟩
                go_wp2_with fail
                have hfew := HV.out.few
                have HFEW := Lib.hid hfew
                have hfew2 : segs.length ≤ 500 := by omega
                clear hfew
                go_loopw [14] (fun mv wi2 => ∃ m : Int, 1 ≤ m ∧ kk + m ≤ r.n ∧ mv = .int .i64 m ∧ Below wm.heap.size wm wi2 ∧ Hid (∀ j, 0 ≤ j → j < m → toF outer (r.b + kk + j) = some (nn + j))) (fun mv _ => (r.n - kk - intOf mv).toNat)
                case atStart => exact ⟨1, by omega, by omega, rfl, Below.refl _ _, fun j h1 h2 => by
                  obtain rfl : j = 0 := by omega
                  rw [Int.add_zero, Int.add_zero]; exact HT0.out⟩
                case round =>
                  obtain ⟨m, hm1, hm2, rfl, hbm, HM⟩ := hrel
                  have c1x := (hbm.cell (p := ⟨wo.heap.size, 0, none⟩) hsz3).trans c1'
                  have c2x := (hbm.cell (p := ⟨wo.heap.size, 1, none⟩) hsz3).trans c2'
                  have c3x := (hbm.cell (p := ⟨wo.heap.size, 2, none⟩) hsz3).trans c3'
                  have hownx := ownsRow_below hown3 hbm
                  have hbelx := hbel3.trans (hbm.mono hbel3.size)
                  have hszx := Nat.lt_of_lt_of_le hsz3 hbm.size
                  clear hown3 hbel3 c1' c2' c3'
                  by_cases hmk : kk + m < r.n
                  · have hcases : (toR outer (r.b + kk + m) = (0, 4)) ∨ (∃ x, toR outer (r.b + kk + m) = (x, 0) ∧ toF outer (r.b + kk + m) = some x) := by
                      cases hto : toF outer (r.b + kk + m) with
                      | none => exact .inl (toR_miss HCO.out hto)
                      | some x => exact .inr ⟨x, toR_hit HCO.out hto, rfl⟩
                    rcases hcases with hR | ⟨x, hR, hF⟩
                    · have HT := Lib.hid hR
                      clear hR
                      go_wp2_with fail
                      refine (to_is _ (HO.out.below hbelx)).mono ?_
                      rintro e w4 ⟨rfl, hb4⟩
                      rw [HT.out]
                      replace c1x := (hb4.cell (p := ⟨wo.heap.size, 0, none⟩) hszx).trans c1x
                      replace c2x := (hb4.cell (p := ⟨wo.heap.size, 1, none⟩) hszx).trans c2x
                      replace c3x := (hb4.cell (p := ⟨wo.heap.size, 2, none⟩) hszx).trans c3x
                      replace hownx := ownsRow_below hownx hb4
                      replace hbelx := hbelx.trans (hb4.mono hbelx.size)
                      replace hszx := Nat.lt_of_lt_of_le hszx hb4.size
                      clear hb4 hbm
                      go_wp2_with (at_builtin; refine wpList_append_fresh _ rfl (.tmp 77) (.tmp 85) 33 rfl w.heap.size 99 i0 (.agg #[.int .i64 0, .int .i64 0, .int .i64 0]) 3 24 Try.underlying33 hi hz0 hz1 hz2 rfl (by decide) _ _ _ rfl (hownx.alloc _) ⟨w4.heap.size, 0, none⟩ 1 1 [.int .i64 (r.a + kk), .int .i64 nn, .int .i64 m] rfl rfl (cells3_new _ _ _ _ _) one3 (by unfold maxLen; omega) (by omega) (by have := hbelx.size; simp; omega) ?_)
                      · skip
                        intro v' w5 hown5 hgrow5 hfresh
                        have hbel5 : Below w.heap.size w w5 := (hbelx.alloc hbelx.size _).grown hgrow5 (by have := hbelx.size; simp; omega) (fun g hg => (hownx.lt g hg).1)
                        have keep : ∀ o, w5.cell? ⟨wo.heap.size, o, none⟩ = w4.cell? ⟨wo.heap.size, o, none⟩ := fun o => (World.cell?_of_block (hgrow5.block wo.heap.size (by simp; omega) (fun e => HNE.out _ e.symm rfl))).trans (World.cell?_alloc_past _ _ _ (by omega))
                        have d1 := (keep 0).trans c1x
                        have d2 := (keep 1).trans c2x
                        have d3 := (keep 2).trans c3x
                        have hsz5 : wo.heap.size < w5.heap.size := by have := hgrow5.size; simp at this; omega
                        have HNE5 : Hid (∀ g, v'.ownBlock = some g → g ≠ wo.heap.size) := by
                          intro g hg
                          rcases hfresh with h | ⟨g', h1, h2⟩
                          · exact HNE.out g (h ▸ hg)
                          · rw [h2] at hg; have hgg := Option.some.inj hg
                            rw [← hgg]
                            have : wo.heap.size < g' := by omega
                            omega
                        have HV5 : Hid (NInv outer inner k (kk + m) (segs ++ [(⟨r.a + kk, nn, m⟩ : Rg)])) := by
                          have := ninv_step ((chk_zero inner).1 HCI.out).2 HV.out (by rw [← HN.out]; exact hlt) hk0 (n := nn) hm1 (by rw [← HR.out]; exact hm2) (by rw [← HR.out]; exact HM.out)
                          rw [← HR.out] at this
                          exact this
                        have hown6 : w5.ownsRow w.heap.size 99 3 v' (segs ++ [(⟨r.a + kk, nn, m⟩ : Rg)]).length (cellsR (segs ++ [(⟨r.a + kk, nn, m⟩ : Rg)])) := by
                          rw [cellsR_snoc, List.length_append]; exact hown5
                        clear hown5 hgrow5 hfresh keep hownx hbelx c1x c2x c3x
                        go_wp2
                        go_roundw
                        case rel => exact ⟨kk + m, segs ++ [(⟨r.a + kk, nn, m⟩ : Rg)], by omega, by omega, by go_num, hbel5, hsz5, hown6, HNE5, d1, d2, d3, HV5⟩
                        case measure => simp [intOf]; omega

                    · have HT := Lib.hid hR
                      clear hR
                      by_cases hx : x = nn + m
                      · have hxb : (x != nn + m) = false := by simp [hx]
                        have HF := Lib.hid hF
                        have HX := Lib.hid hx
                        clear hF hx
                        go_wp2_with fail
                        refine (to_is _ (HO.out.below hbelx)).mono ?_
                        rintro e w4 ⟨rfl, hb4⟩
                        rw [HT.out]
                        go_wp2
                        go_roundw
                        case rel => exact ⟨m + 1, by omega, by omega, by go_num, hbm.trans (hb4.mono hbm.size), fun j h1 h2 => by
                          by_cases hj : j < m
                          · exact HM.out j h1 hj
                          · obtain rfl : j = m := by omega
                            rw [HF.out, HX.out]⟩
                        case measure => simp [intOf]; omega
                      · have hxb : (x != nn + m) = true := by simp [hx]
                        clear hF hx
                        go_wp2_with fail
                        refine (to_is _ (HO.out.below hbelx)).mono ?_
                        rintro e w4 ⟨rfl, hb4⟩
                        rw [HT.out]
                        replace c1x := (hb4.cell (p := ⟨wo.heap.size, 0, none⟩) hszx).trans c1x
                        replace c2x := (hb4.cell (p := ⟨wo.heap.size, 1, none⟩) hszx).trans c2x
                        replace c3x := (hb4.cell (p := ⟨wo.heap.size, 2, none⟩) hszx).trans c3x
                        replace hownx := ownsRow_below hownx hb4
                        replace hbelx := hbelx.trans (hb4.mono hbelx.size)
                        replace hszx := Nat.lt_of_lt_of_le hszx hb4.size
                        clear hb4 hbm
                        go_wp2_with (at_builtin; refine wpList_append_fresh _ rfl (.tmp 77) (.tmp 85) 33 rfl w.heap.size 99 i0 (.agg #[.int .i64 0, .int .i64 0, .int .i64 0]) 3 24 Try.underlying33 hi hz0 hz1 hz2 rfl (by decide) _ _ _ rfl (hownx.alloc _) ⟨w4.heap.size, 0, none⟩ 1 1 [.int .i64 (r.a + kk), .int .i64 nn, .int .i64 m] rfl rfl (cells3_new _ _ _ _ _) one3 (by unfold maxLen; omega) (by omega) (by have := hbelx.size; simp; omega) ?_)
                        · skip
                          intro v' w5 hown5 hgrow5 hfresh
                          have hbel5 : Below w.heap.size w w5 := (hbelx.alloc hbelx.size _).grown hgrow5 (by have := hbelx.size; simp; omega) (fun g hg => (hownx.lt g hg).1)
                          have keep : ∀ o, w5.cell? ⟨wo.heap.size, o, none⟩ = w4.cell? ⟨wo.heap.size, o, none⟩ := fun o => (World.cell?_of_block (hgrow5.block wo.heap.size (by simp; omega) (fun e => HNE.out _ e.symm rfl))).trans (World.cell?_alloc_past _ _ _ (by omega))
                          have d1 := (keep 0).trans c1x
                          have d2 := (keep 1).trans c2x
                          have d3 := (keep 2).trans c3x
                          have hsz5 : wo.heap.size < w5.heap.size := by have := hgrow5.size; simp at this; omega
                          have HNE5 : Hid (∀ g, v'.ownBlock = some g → g ≠ wo.heap.size) := by
                            intro g hg
                            rcases hfresh with h | ⟨g', h1, h2⟩
                            · exact HNE.out g (h ▸ hg)
                            · rw [h2] at hg; have hgg := Option.some.inj hg
                              rw [← hgg]
                              have : wo.heap.size < g' := by omega
                              omega
                          have HV5 : Hid (NInv outer inner k (kk + m) (segs ++ [(⟨r.a + kk, nn, m⟩ : Rg)])) := by
                            have := ninv_step ((chk_zero inner).1 HCI.out).2 HV.out (by rw [← HN.out]; exact hlt) hk0 (n := nn) hm1 (by rw [← HR.out]; exact hm2) (by rw [← HR.out]; exact HM.out)
                            rw [← HR.out] at this
                            exact this
                          have hown6 : w5.ownsRow w.heap.size 99 3 v' (segs ++ [(⟨r.a + kk, nn, m⟩ : Rg)]).length (cellsR (segs ++ [(⟨r.a + kk, nn, m⟩ : Rg)])) := by
                            rw [cellsR_snoc, List.length_append]; exact hown5
                          clear hown5 hgrow5 hfresh keep hownx hbelx c1x c2x c3x
                          go_wp2
                          go_roundw
                          case rel => exact ⟨kk + m, segs ++ [(⟨r.a + kk, nn, m⟩ : Rg)], by omega, by omega, by go_num, hbel5, hsz5, hown6, HNE5, d1, d2, d3, HV5⟩
                          case measure => simp [intOf]; omega

                  · clear hbm
                    go_wp2_with (at_builtin; refine wpList_append_fresh _ rfl (.tmp 77) (.tmp 85) 33 rfl w.heap.size 99 i0 (.agg #[.int .i64 0, .int .i64 0, .int .i64 0]) 3 24 Try.underlying33 hi hz0 hz1 hz2 rfl (by decide) _ _ _ rfl (hownx.alloc _) ⟨wr.heap.size, 0, none⟩ 1 1 [.int .i64 (r.a + kk), .int .i64 nn, .int .i64 m] rfl rfl (cells3_new _ _ _ _ _) one3 (by unfold maxLen; omega) (by omega) (by have := hbelx.size; simp; omega) ?_)
                    · skip
                      intro v' w5 hown5 hgrow5 hfresh
                      have hbel5 : Below w.heap.size w w5 := (hbelx.alloc hbelx.size _).grown hgrow5 (by have := hbelx.size; simp; omega) (fun g hg => (hownx.lt g hg).1)
                      have keep : ∀ o, w5.cell? ⟨wo.heap.size, o, none⟩ = wr.cell? ⟨wo.heap.size, o, none⟩ := fun o => (World.cell?_of_block (hgrow5.block wo.heap.size (by simp; omega) (fun e => HNE.out _ e.symm rfl))).trans (World.cell?_alloc_past _ _ _ (by omega))
                      have d1 := (keep 0).trans c1x
                      have d2 := (keep 1).trans c2x
                      have d3 := (keep 2).trans c3x
                      have hsz5 : wo.heap.size < w5.heap.size := by have := hgrow5.size; simp at this; omega
                      have HNE5 : Hid (∀ g, v'.ownBlock = some g → g ≠ wo.heap.size) := by
                        intro g hg
                        rcases hfresh with h | ⟨g', h1, h2⟩
                        · exact HNE.out g (h ▸ hg)
                        · rw [h2] at hg; have hgg := Option.some.inj hg
                          rw [← hgg]
                          have : wo.heap.size < g' := by omega
                          omega
                      have HV5 : Hid (NInv outer inner k (kk + m) (segs ++ [(⟨r.a + kk, nn, m⟩ : Rg)])) := by
                        have := ninv_step ((chk_zero inner).1 HCI.out).2 HV.out (by rw [← HN.out]; exact hlt) hk0 (n := nn) hm1 (by rw [← HR.out]; exact hm2) (by rw [← HR.out]; exact HM.out)
                        rw [← HR.out] at this
                        exact this
                      have hown6 : w5.ownsRow w.heap.size 99 3 v' (segs ++ [(⟨r.a + kk, nn, m⟩ : Rg)]).length (cellsR (segs ++ [(⟨r.a + kk, nn, m⟩ : Rg)])) := by
                        rw [cellsR_snoc, List.length_append]; exact hown5
                      clear hown5 hgrow5 hfresh keep hownx hbelx c1x c2x c3x
                      go_wp2
                      go_roundw
                      case rel => exact ⟨kk + m, segs ++ [(⟨r.a + kk, nn, m⟩ : Rg)], by omega, by omega, by go_num, hbel5, hsz5, hown6, HNE5, d1, d2, d3, HV5⟩
                      case measure => simp [intOf]; omega
            · obtain rfl : kk = r.n := by omega
              go_wp2
              go_roundw
              case rel => exact ⟨k + 1, segs, by omega, by go_num, hbel, hown, ninv_next ((chk_zero inner).1 HCI.out).2 (by rw [← HN.out]; exact hlt) (by rw [← HR.out]) HV.out⟩
              case measure => simp [intOf]; omega
        · obtain rfl : k = n := by omega
          rcases hown.2 with ⟨hv, hn0⟩ | ⟨g, capo, cur, hv, hbg, hg, hnc, hcm, hcs, htake⟩
          · have hsegs : segs = [] := List.eq_nil_of_length_eq_zero hn0
            subst hsegs
            subst hv
            have HOwn := Lib.hid hown
            clear hown
            go_wp2
            go_ret2
            exact ⟨_, 0, rfl, hbel, .inr ⟨rfl, HCO.out, HCI.out, [], by simp, by rw [← HN.out]; exact HV.out, isL_of_owned HOwn.out⟩⟩
          · subst hv
            have HOwn := Lib.hid hown
            have hlen : segs.length ≤ 9223372036854775807 := by simp only [maxLen] at hcm; omega
            clear hown hg htake hcs
            by_cases h5 : 4 < segs.length
            · go_wp2
              go_ret2
              exact nestPost_bad (by decide) hbel
            · go_wp2
              go_ret2
              exact ⟨_, 0, rfl, hbel, .inr ⟨rfl, HCO.out, HCI.out, segs, by omega, by rw [← HN.out]; exact HV.out, isL_of_owned HOwn.out⟩⟩
    · have hine : (chk inner != 0) = true := by simp [hci]
      have HCI := Lib.hid hci
      clear hci
      go_enter Try.func21, Try.ntmps21
      go_wp2_with fail
      refine (check_is HO.out).mono ?_
      rintro e w1 ⟨rfl, hb1⟩
      go_wp2_with fail
      refine (HK.out _ hb1).mono ?_
      rintro e w2 ⟨rfl, hb2⟩
      go_wp2
      go_ret2
      exact nestPost_bad HCI.out (hb1.trans (hb2.mono hb1.size))
  · have hone : (chk outer != 0) = true := by simp [hco]
    have HCO := Lib.hid hco
    clear hco
    go_enter Try.func21, Try.ntmps21
    go_wp2_with fail
    refine (check_is HO.out).mono ?_
    rintro e w1 ⟨rfl, hb1⟩
    go_wp2
    go_ret2
    exact nestPost_bad HCO.out hb1
end Go.Proofs.Ytgdihccmkleimaa.BoxLaw
