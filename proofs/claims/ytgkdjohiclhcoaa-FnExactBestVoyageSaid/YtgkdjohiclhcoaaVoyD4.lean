/- The search for the best voyage: the program's routes, BestVoyage. -/
import Derived.Test.YtgkdjohiclhcoaaVoyD3
import Derived.Test.YtgkdjohiclhcoaaVoyN2
namespace Go.Proofs.Ytgkdjohiclhcoaa
open Go.RowKit
/-- The code of a search. -/
noncomputable def routK (s : Sh) (zs : List Wk) (p : VSt) (bu : Int) : Int :=
  bif !decide (askK s zs p [] = 0) then askK s zs p [] else bif !inB bu 1 20000 then 2 else match dfs s zs p bu.toNat [] (bu.toNat, none) with
    | none => 5
    | some _ => 0
def RoutAns (h : Nat) (s : Sh) (zs : List Wk) (p : VSt) (bu : Int) (w : World) (e : Ending) (w' : World) : Prop :=
  e = .returned (.int .i64 (routK s zs p bu)) ∧ Below (h + 4) w w' ∧ (routK s zs p bu = 0 → ∃ l' b' R, dfs s zs p bu.toNat [] (bu.toNat, none) = some (l', b') ∧ w.heap.size ≤ R ∧ BM w' h R b' ∧ BOk zs.length b')
theorem rout_ask {s : Sh} {zs : List Wk} {p : VSt} {bu K : Int} (h : askK s zs p [] = K) (hK : ¬ K = 0) : routK s zs p bu = K := by
  rw [routK, h, decide_eq_false hK]; rfl
theorem rout_rng {s : Sh} {zs : List Wk} {p : VSt} {bu : Int} (h : askK s zs p [] = 0) (hb : inB bu 1 20000 = false) : routK s zs p bu = 2 := by
  rw [routK, h, hb]; rfl
theorem rout_none {s : Sh} {zs : List Wk} {p : VSt} {q : Nat} (h : askK s zs p [] = 0) (hb : inB (q : Int) 1 20000 = true) (hd : dfs s zs p q [] (q, none) = none) : routK s zs p q = 5 := by
  rw [routK, h, hb, Int.toNat_natCast, hd]; rfl
theorem rout_some {s : Sh} {zs : List Wk} {p : VSt} {q : Nat} {r : Nat × BSt} (h : askK s zs p [] = 0) (hb : inB (q : Int) 1 20000 = true) (hd : dfs s zs p q [] (q, none) = some r) : routK s zs p q = 0 := by
  rw [routK, h, hb, Int.toNat_natCast, hd]; rfl
set_option maxRecDepth 100000 in
set_option maxHeartbeats 4000000 in
theorem routes_c (h : Nat) (s : Sh) (x y t bu : Int) (AZ : Option Addr) (N cZ : Nat) (zs : List Wk) (w : World) (hs : s.name.size ≤ maxLen) (hN : N ≤ 1048576) (hns : ∀ z ∈ zs, z.name.size ≤ maxLen)
    (hsh : ShP w h s) (hpt : PtP w (h + 1) x y) (hlc : w.cell? ⟨h + 2, 0, none⟩ = some (.slice AZ N cZ)) (htc : w.cell? ⟨h + 3, 0, none⟩ = some (.int .i64 t)) (hz : Sl w h 7 AZ N (zs.flatMap Wk.cells))
    (hlb : w.heap[h + 5]? = some (.cells #[.int .i64 (-1)] 2 (0, 0))) (hbb : w.heap[h + 4]? = some (.cells #[.slice none 0 0] 29 (0, 0))) (hsz : h + 6 = w.heap.size) :
    Calls Try.prog 31 #[s.val, ptV x y, .slice AZ N cZ, .int .i64 t, .int .i64 bu, reachF h] w (RoutAns h s zs ⟨t, x, y⟩ bu w) := by
  have hb0 : Below w.heap.size w ((w.alloc (shO s 32)).alloc (ptO x y 34)) := by (repeat (first | (with_reducible assumption) | (with_reducible exact Below.refl _ _) | exact Nat.le_refl _ | exact Below.size (by with_reducible assumption) | (with_reducible refine Below.drew ?_) | (with_reducible refine below_drewN ?_ _) | (with_reducible refine Below.alloc ?_ ?_ _) | (with_reducible refine Below.setCell ?_ ?_ _) | (with_reducible refine le_alloc ?_ _) | (with_reducible refine le_set ?_ _ _) | (with_reducible refine le_drew ?_) | (with_reducible refine le_drewN ?_ _) | omega | (dsimp only; omega)))
  have g1 := (ShP.box w s 32).next (w' := (w.alloc (shO s 32)).alloc (ptO x y 34)) (by (repeat (first | (with_reducible assumption) | (with_reducible exact Below.refl _ _) | exact Nat.le_refl _ | exact Below.size (by with_reducible assumption) | (with_reducible refine Below.drew ?_) | (with_reducible refine below_drewN ?_ _) | (with_reducible refine Below.alloc ?_ ?_ _) | (with_reducible refine Below.setCell ?_ ?_ _) | (with_reducible refine le_alloc ?_ _) | (with_reducible refine le_set ?_ _ _) | (with_reducible refine le_drew ?_) | (with_reducible refine le_drewN ?_ _) | omega | (dsimp only; omega))))
  have hsz1 : (w.alloc (shO s 32)).heap.size = w.heap.size + 1 := by simp
  have p1 := PtP.box (w.alloc (shO s 32)) x y
  rw [hsz1] at p1
  obtain ⟨w0, hw⟩ : ∃ w0, (w.alloc (shO s 32)).alloc (ptO x y 34) = w0 := ⟨_, rfl⟩
  rw [hw] at hb0 g1 p1
  have hC := voyageCode_c s x y t AZ N cZ zs none 0 0 [] w0 hs ((hz.more (by omega)).next hb0) hN hns Sl.none_ (by omega) (by omega)
  obtain ⟨K, hK⟩ : ∃ K, askK s zs ⟨t, x, y⟩ [] = K := ⟨_, rfl⟩
  rw [hK] at hC
  obtain ⟨c0, c1, c2, c3, hg⟩ := g1
  obtain ⟨d0, d1, hp1⟩ := p1
  have HE : Hid (∀ w' R, Below w.heap.size w w' → h + 5 < R → R < w'.heap.size → SrE w' h R s x y t AZ N cZ zs ∧ BM w' h R none) := Lib.hid fun w' R hb h1 h2 =>
    ⟨⟨hsh.next hb, hpt.next hb, (keepC hb _ (by omega) _).trans hlc, (keepC hb _ (by omega) _).trans htc, hz.keep fun b hb' => hb.block b (by omega), h1, h2⟩,
      ⟨(hb.block _ (by omega)).trans hlb, none, 0, 0, (hb.block _ (by omega)).trans hbb, fun _ _ he => nomatch he⟩⟩
  clear hsz1 hsh hpt hlc htc hz hlb hbb hns
  have HK := Lib.hid hK; clear hK
  have HC := Lib.hid hC; clear hC
  by_cases hK0 : K = 0
  · subst hK0
    obtain ⟨B, hB⟩ : ∃ B, inB bu 1 20000 = B := ⟨_, rfl⟩
    have hW : ∀ w1, Calls Try.prog 55 #[.int .i64 bu, .int .i64 1, .int .i64 20000] w1 fun e w' => e = .returned (.bool B) ∧ w1 = w' := fun w1 => hB ▸ within_c _ _ _ w1
    cases B
    · have hr := rout_rng HK.out hB
      have HB := Lib.hid hB; clear hB
      have Hr := Lib.hid hr; clear hr
      have HW := Lib.hid hW; clear hW
      have Hsz := Lib.hid hsz; clear hsz
      go_enter Try.func31, Try.ntmps31
      go_wp2_with fail
      try rw [hw]
      clear hw
      refine (HC.out).mono ?_
      rintro e w1 ⟨rfl, hb1⟩
      go_wp2_with fail
      refine (HW.out _).mono ?_
      rintro e w2 ⟨rfl, rfl⟩
      have hbf := (hb0.trans (hb1.mono hb0.size)).mono (show h + 4 ≤ w.heap.size by have := Hsz.out; omega)
      go_wp2_with fail
      go_ret
      exact ⟨by rw [Hr.out]; rfl, hbf, fun h0 => by rw [Hr.out] at h0; exact absurd h0 (by decide)⟩
    · have hq := inB_iff.1 hB
      obtain ⟨q, rfl⟩ : ∃ q : Nat, bu = q := ⟨bu.toNat, by omega⟩
      have hv : VOk s zs ⟨t, x, y⟩ [] := VOk.of_ask HK.out
      have h0 := voyK_nil (s := s) (zs := zs) (p := ⟨t, x, y⟩) hv.ld.1
      have HB := Lib.hid hB; clear hB
      have HW := Lib.hid hW; clear hW
      have Hv := Lib.hid hv; clear hv
      have H0 := Lib.hid h0; clear h0
      have Hsz := Lib.hid hsz; clear hsz
      go_enter Try.func31, Try.ntmps31
      go_wp2_with fail
      try rw [hw]
      clear hw
      refine (HC.out).mono ?_
      rintro e w1 ⟨rfl, hb1⟩
      have hbw1 := hb0.trans (hb1.mono hb0.size)
      have v0 := (keepC hb1 w.heap.size hg 0).trans c0
      have v1 := (keepC hb1 w.heap.size hg 1).trans c1
      have v2 := (keepC hb1 w.heap.size hg 2).trans c2
      have v3 := (keepC hb1 w.heap.size hg 3).trans c3
      have t0 := (keepC hb1 (w.heap.size + 1) hp1 0).trans d0
      have t1 := (keepC hb1 (w.heap.size + 1) hp1 1).trans d1
      clear c0 c1 c2 c3 d0 d1 hg hp1
      go_wp2_with fail
      refine (HW.out _).mono ?_
      rintro e w2 ⟨rfl, rfl⟩
      have hrb := heap_alloc_new w1 (.cells (rCs s x y t AZ N cZ h q) 96)
      have hbR : Below w.heap.size w (w1.alloc (.cells (rCs s x y t AZ N cZ h q) 96)) := hbw1.alloc hbw1.size _
      have hsR : (w1.alloc (.cells (rCs s x y t AZ N cZ h q) 96)).heap.size = w1.heap.size + 1 := by simp
      have hle := hbw1.size
      have hoM := World.ownsRow_made (base := w1.heap.size + 1) (e := 2) (size := 1) (w1.alloc (.cells (rCs s x y t AZ N cZ h q) 96)) #[] 0 (Nat.le_of_eq hsR.symm) (by simp [maxLen]) rfl
      rw [hsR] at hoM
      go_wp2_with fail
      obtain ⟨wS, hwS⟩ : ∃ wS, (w1.alloc (.cells (rCs s x y t AZ N cZ h q) 96)).alloc (.cells #[] 2) = wS := ⟨_, rfl⟩
      have hbS : Below w.heap.size w wS := by rw [← hwS]; exact hbR.alloc hbR.size _
      have hrS : wS.heap[w1.heap.size]? = some (.cells (rCs s x y t AZ N cZ h q) 96 (0, 0)) := by
        rw [← hwS]
        exact (((Below.refl (w1.alloc (.cells (rCs s x y t AZ N cZ h q) 96)).heap.size _).alloc (Nat.le_refl _) _).block w1.heap.size (by omega)).trans hrb
      have hlS : w1.heap.size < wS.heap.size := by rw [← hwS]; simp; omega
      rw [hwS] at hoM
      try rw [hwS]
      obtain ⟨R, hR⟩ : ∃ R, w1.heap.size = R := ⟨_, rfl⟩
      rw [hR] at hoM hrS hlS hle
      try rw [hR]
      clear hwS hR hrb hbR hsR
      have hX : SrX wS h R s x y t AZ N cZ zs q none := ⟨(HE.out wS R hbS (by have := Hsz.out; omega) hlS).1, hrS, (HE.out wS R hbS (by have := Hsz.out; omega) hlS).2, BOk.none _⟩
      have hS := search_c h R s x y t AZ N cZ zs q (some ⟨R + 1, 0, none⟩) 0 0 [] q none wS hX hoM Hv.out H0.out (Nat.le_refl _) (by omega)
      obtain ⟨D, hD⟩ : ∃ D, dfs s zs ⟨t, x, y⟩ q [] (q, none) = D := ⟨_, rfl⟩
      rw [hD] at hS
      have hbf : ∀ w', Rng (h + 4) (R + 1) wS w' → Below (h + 4) w w' := fun w' hr => below_rng (hbS.mono (by have := Hsz.out; omega)) hr (Nat.le_refl _) (by have := Hsz.out; have := hbS.size; omega)
      have hqq : ((q : Nat) : Int).toNat = q := Int.toNat_natCast q
      have HX := Lib.hid hX; clear hX
      have Hqq := Lib.hid hqq; clear hqq
      have HS := Lib.hid hS; clear hS
      have HD := Lib.hid hD; clear hD
      clear hoM hrS
      refine HS.out.mono ?_
      rintro e w3 ⟨hg3, hm3⟩
      have hb3 := hbf w3 hg3
      cases D with
      | none =>
        obtain rfl := hm3
        have hr := rout_none HK.out HB.out HD.out
        have Hr := Lib.hid hr; clear hr
        go_wp2_with fail
        go_ret
        exact ⟨by rw [Hr.out]; rfl, hb3, fun h0 => by rw [Hr.out] at h0; exact absurd h0 (by decide)⟩
      | some r =>
        obtain ⟨l', b'⟩ := r
        obtain ⟨rfl, hl, hX3⟩ := hm3
        have hr := rout_some HK.out HB.out HD.out
        have Hr := Lib.hid hr; clear hr
        have HX3 := Lib.hid hX3; clear hX3
        go_wp2_with fail
        go_ret
        exact ⟨by rw [Hr.out]; rfl, hb3, fun _ => ⟨l', b', R, by rw [Hqq.out]; exact HD.out, by omega, HX3.out.m, HX3.out.k⟩⟩
  · have hr := rout_ask (bu := bu) HK.out hK0
    have hKn : (K != 0) = true := by simpa using hK0
    have Hr := Lib.hid hr; clear hr
    have Hsz := Lib.hid hsz; clear hsz
    go_enter Try.func31, Try.ntmps31
    go_wp2_with fail
    try rw [hw]
    clear hw
    refine (HC.out).mono ?_
    rintro e w1 ⟨rfl, hb1⟩
    have hbf := (hb0.trans (hb1.mono hb0.size)).mono (show h + 4 ≤ w.heap.size by have := Hsz.out; omega)
    go_wp2_with fail
    go_ret
    exact ⟨by rw [Hr.out]; rfl, hbf, fun h0 => by rw [Hr.out] at h0; exact absurd h0 hK0⟩
theorem best_no {s : Sh} {zs : List Wk} {p : VSt} {bu : Int} (h : ¬ routK s zs p bu = 0) : bestK s zs p bu = routK s zs p bu ∧ bestL s zs p bu = [] := by
  unfold routK at h ⊢
  unfold bestK bestL
  cases h1 : !decide (askK s zs p [] = 0)
  · rw [h1] at h
    cases h2 : !inB bu 1 20000
    · rw [h2] at h
      cases h3 : dfs s zs p bu.toNat [] (bu.toNat, none) with
      | none => exact ⟨rfl, rfl⟩
      | some r => rw [h3] at h; exact absurd rfl h
    · exact ⟨rfl, rfl⟩
  · exact ⟨rfl, rfl⟩
def codeB : BSt → Int
  | none => 3
  | some _ => 0
def listB : BSt → List Int
  | none => []
  | some (_, bs) => bs
theorem best_ok {s : Sh} {zs : List Wk} {p : VSt} {bu : Int} {l : Nat} {b : BSt} (h : routK s zs p bu = 0) (hd : dfs s zs p bu.toNat [] (bu.toNat, none) = some (l, b)) : bestK s zs p bu = codeB b ∧ bestL s zs p bu = listB b := by
  unfold routK at h
  unfold bestK bestL
  cases h1 : !decide (askK s zs p [] = 0)
  · rw [h1] at h
    cases h2 : !inB bu 1 20000
    · rw [hd]
      cases b with
      | none => exact ⟨rfl, rfl⟩
      | some r => exact ⟨rfl, rfl⟩
    · rw [h2] at h; simp at h
  · rw [h1] at h
    have h3 : ¬ askK s zs p [] = 0 := by simpa using h1
    exact absurd h h3
def BestAns (s : Sh) (zs : List Wk) (p : VSt) (bu : Int) (w : World) (e : Ending) (w' : World) : Prop :=
  ∃ v n, e = .returned (.tuple #[v, .int .i64 (bestK s zs p bu)]) ∧ n = (bestL s zs p bu).length ∧ w'.ownsRow w.heap.size 2 1 v n ((bestL s zs p bu).flatMap intC) ∧ Below w.heap.size w w'
theorem alloc_at {w w' : World} {cs : Array Value} {e : TypeId} {i : Nat} (hi : i = w.heap.size) (hb : Below (w.alloc (.cells cs e)).heap.size (w.alloc (.cells cs e)) w') : w'.heap[i]? = some (.cells cs e (0, 0)) := by
  subst hi
  exact (hb.block _ (by simp)).trans (heap_alloc_new w _)
abbrev b6 (w : World) (s : Sh) (x y t : Int) (AZ : Option Addr) (N cZ : Nat) : World := (((((w.alloc (shO s 32)).alloc (ptO x y 34)).alloc (.cells #[.slice AZ N cZ] 36)).alloc (.cells #[.int .i64 t] 2)).alloc (.cells #[.slice none 0 0] 29)).alloc (.cells #[.int .i64 (-1)] 2)
theorem own_nil (w : World) (B : Nat) (e : TypeId) (sz : Nat) : w.ownsRow B e sz (.slice none 0 0) 0 [] := ⟨by simp, .inl ⟨rfl, rfl⟩⟩
set_option maxRecDepth 100000 in
set_option maxHeartbeats 4000000 in
theorem implBestVoyage_c (s : Sh) (x y t bu : Int) (AZ : Option Addr) (N cZ : Nat) (zs : List Wk) (w : World) (hs : s.name.size ≤ maxLen) (hz : Sl w w.heap.size 7 AZ N (zs.flatMap Wk.cells)) (hN : N ≤ 1048576) (hns : ∀ z ∈ zs, z.name.size ≤ maxLen) :
    Calls Try.prog 12 #[s.val, ptV x y, .slice AZ N cZ, .int .i64 t, .int .i64 bu] w (BestAns s zs ⟨t, x, y⟩ bu w) := by
  have q1 := alloc_at (i := w.heap.size) (w := w) (e := 32) (w' := b6 w s x y t AZ N cZ) (by simp) (by unfold b6; (repeat (first | (with_reducible assumption) | (with_reducible exact Below.refl _ _) | exact Nat.le_refl _ | exact Below.size (by with_reducible assumption) | (with_reducible refine Below.drew ?_) | (with_reducible refine below_drewN ?_ _) | (with_reducible refine Below.alloc ?_ ?_ _) | (with_reducible refine Below.setCell ?_ ?_ _) | (with_reducible refine le_alloc ?_ _) | (with_reducible refine le_set ?_ _ _) | (with_reducible refine le_drew ?_) | (with_reducible refine le_drewN ?_ _) | omega | (dsimp only; omega))))
  have q2 := alloc_at (i := w.heap.size + 1) (w := w.alloc (shO s 32)) (e := 34) (w' := b6 w s x y t AZ N cZ) (by simp) (by unfold b6; (repeat (first | (with_reducible assumption) | (with_reducible exact Below.refl _ _) | exact Nat.le_refl _ | exact Below.size (by with_reducible assumption) | (with_reducible refine Below.drew ?_) | (with_reducible refine below_drewN ?_ _) | (with_reducible refine Below.alloc ?_ ?_ _) | (with_reducible refine Below.setCell ?_ ?_ _) | (with_reducible refine le_alloc ?_ _) | (with_reducible refine le_set ?_ _ _) | (with_reducible refine le_drew ?_) | (with_reducible refine le_drewN ?_ _) | omega | (dsimp only; omega))))
  have q3 := alloc_at (i := w.heap.size + 2) (w := (w.alloc (shO s 32)).alloc (ptO x y 34)) (e := 36) (w' := b6 w s x y t AZ N cZ) (by simp) (by unfold b6; (repeat (first | (with_reducible assumption) | (with_reducible exact Below.refl _ _) | exact Nat.le_refl _ | exact Below.size (by with_reducible assumption) | (with_reducible refine Below.drew ?_) | (with_reducible refine below_drewN ?_ _) | (with_reducible refine Below.alloc ?_ ?_ _) | (with_reducible refine Below.setCell ?_ ?_ _) | (with_reducible refine le_alloc ?_ _) | (with_reducible refine le_set ?_ _ _) | (with_reducible refine le_drew ?_) | (with_reducible refine le_drewN ?_ _) | omega | (dsimp only; omega))))
  have q4 := alloc_at (i := w.heap.size + 3) (w := ((w.alloc (shO s 32)).alloc (ptO x y 34)).alloc (.cells #[.slice AZ N cZ] 36)) (e := 2) (w' := b6 w s x y t AZ N cZ) (by simp) (by unfold b6; (repeat (first | (with_reducible assumption) | (with_reducible exact Below.refl _ _) | exact Nat.le_refl _ | exact Below.size (by with_reducible assumption) | (with_reducible refine Below.drew ?_) | (with_reducible refine below_drewN ?_ _) | (with_reducible refine Below.alloc ?_ ?_ _) | (with_reducible refine Below.setCell ?_ ?_ _) | (with_reducible refine le_alloc ?_ _) | (with_reducible refine le_set ?_ _ _) | (with_reducible refine le_drew ?_) | (with_reducible refine le_drewN ?_ _) | omega | (dsimp only; omega))))
  have q5 := alloc_at (i := w.heap.size + 4) (w := (((w.alloc (shO s 32)).alloc (ptO x y 34)).alloc (.cells #[.slice AZ N cZ] 36)).alloc (.cells #[.int .i64 t] 2)) (e := 29) (w' := b6 w s x y t AZ N cZ) (by simp) (by unfold b6; (repeat (first | (with_reducible assumption) | (with_reducible exact Below.refl _ _) | exact Nat.le_refl _ | exact Below.size (by with_reducible assumption) | (with_reducible refine Below.drew ?_) | (with_reducible refine below_drewN ?_ _) | (with_reducible refine Below.alloc ?_ ?_ _) | (with_reducible refine Below.setCell ?_ ?_ _) | (with_reducible refine le_alloc ?_ _) | (with_reducible refine le_set ?_ _ _) | (with_reducible refine le_drew ?_) | (with_reducible refine le_drewN ?_ _) | omega | (dsimp only; omega))))
  have q6 : (b6 w s x y t AZ N cZ).heap[w.heap.size + 5]? = some (.cells #[.int .i64 (-1)] 2 (0, 0)) := by
    have := heap_alloc_new ((((w.alloc (shO s 32)).alloc (ptO x y 34)).alloc (.cells #[.slice AZ N cZ] 36)).alloc (.cells #[.int .i64 t] 2) |>.alloc (.cells #[.slice none 0 0] 29)) (.cells #[.int .i64 (-1)] 2)
    simpa [b6] using this
  have hb0 : Below w.heap.size w (b6 w s x y t AZ N cZ) := by unfold b6; (repeat (first | (with_reducible assumption) | (with_reducible exact Below.refl _ _) | exact Nat.le_refl _ | exact Below.size (by with_reducible assumption) | (with_reducible refine Below.drew ?_) | (with_reducible refine below_drewN ?_ _) | (with_reducible refine Below.alloc ?_ ?_ _) | (with_reducible refine Below.setCell ?_ ?_ _) | (with_reducible refine le_alloc ?_ _) | (with_reducible refine le_set ?_ _ _) | (with_reducible refine le_drew ?_) | (with_reducible refine le_drewN ?_ _) | omega | (dsimp only; omega)))
  have hs0 : w.heap.size + 6 = (b6 w s x y t AZ N cZ).heap.size := by simp [b6]
  obtain ⟨w0, hw⟩ : ∃ w0, b6 w s x y t AZ N cZ = w0 := ⟨_, rfl⟩
  rw [hw] at q1 q2 q3 q4 q5 q6 hb0 hs0
  have hC := routes_c w.heap.size s x y t bu AZ N cZ zs w0 hs hN hns (by
    have c := fun i => cell_of_row w0 w.heap.size i _ _ _ q1
    exact ⟨(c 0).trans rfl, (c 1).trans rfl, (c 2).trans rfl, (c 3).trans rfl, by omega⟩) (by
    have c := fun i => cell_of_row w0 (w.heap.size + 1) i _ _ _ q2
    exact ⟨(c 0).trans rfl, (c 1).trans rfl, by omega⟩) ((cell_of_row w0 (w.heap.size + 2) 0 _ _ _ q3).trans rfl) ((cell_of_row w0 (w.heap.size + 3) 0 _ _ _ q4).trans rfl) (hz.keep fun b hb => hb0.block b hb) q6 q5 hs0
  unfold b6 at hw
  obtain ⟨K, hK⟩ : ∃ K, routK s zs ⟨t, x, y⟩ bu = K := ⟨_, rfl⟩
  unfold RoutAns at hC
  rw [hK] at hC
  have HK := Lib.hid hK; clear hK
  have HC := Lib.hid hC; clear hC
  have v0 := (cell_of_row w0 w.heap.size 0 _ _ _ q1).trans rfl
  have v1 := (cell_of_row w0 w.heap.size 1 _ _ _ q1).trans rfl
  have v2 := (cell_of_row w0 w.heap.size 2 _ _ _ q1).trans rfl
  have v3 := (cell_of_row w0 w.heap.size 3 _ _ _ q1).trans rfl
  have u0 := (cell_of_row w0 (w.heap.size + 1) 0 _ _ _ q2).trans rfl
  have u1 := (cell_of_row w0 (w.heap.size + 1) 1 _ _ _ q2).trans rfl
  have z0 := (cell_of_row w0 (w.heap.size + 2) 0 _ _ _ q3).trans rfl
  have t0 := (cell_of_row w0 (w.heap.size + 3) 0 _ _ _ q4).trans rfl
  clear q1 q2 q3 q4 q5 q6
  go_enter Try.func12, Try.ntmps12
  go_wp2_with fail
  try rw [hw]
  clear hw v0 v1 v2 v3 u0 u1 z0 t0
  refine HC.out.mono ?_
  rintro e w1 ⟨rfl, hb1, hm⟩
  have hbf := hb0.trans (hb1.mono (Nat.le_add_right _ _))
  by_cases hK0 : K = 0
  · obtain ⟨l', b', R, hd, hR, hB, hBk⟩ := hm hK0
    subst hK0
    obtain ⟨e1, e2⟩ := best_ok HK.out hd
    obtain ⟨hlb, A, n, c, hbb, hrow⟩ := hB
    have r5 := (cell_of_row w1 (w.heap.size + 5) 0 _ _ _ hlb).trans rfl
    have r4 := (cell_of_row w1 (w.heap.size + 4) 0 _ _ _ hbb).trans rfl
    have hle := hb0.size
    clear hm hlb hbb hd
    have E1 := Lib.hid e1; clear e1
    have E2 := Lib.hid e2; clear e2
    have HBk := Lib.hid hBk; clear hBk
    have Hrow := Lib.hid hrow; clear hrow
    cases b' with
    | none =>
      simp only at r5
      go_wp2_with fail
      go_ret2
      exact ⟨_, _, by rw [E1.out]; rfl, rfl, by rw [E2.out]; exact own_nil _ _ _ _, hbf⟩
    | some r =>
      obtain ⟨el, bs⟩ := r
      have h0 := (HBk.out el bs rfl).1
      simp only at r5
      go_wp2_with fail
      go_ret2
      refine ⟨.slice A n c, n, by rw [E1.out]; rfl, by rw [E2.out]; exact (Hrow.out el bs rfl).1, by rw [E2.out]; exact own_base (Hrow.out el bs rfl).2 (by omega), hbf⟩
  · have hKn : (K != 0) = true := by simpa using hK0
    obtain ⟨e1, e2⟩ := best_no (by rw [HK.out]; exact hK0)
    have E1 := Lib.hid e1; clear e1
    have E2 := Lib.hid e2; clear e2
    clear hm
    go_wp2_with fail
    go_ret2
    exact ⟨_, _, by rw [E1.out, HK.out]; rfl, rfl, by rw [E2.out]; exact own_nil _ _ _ _, hbf⟩
end Go.Proofs.Ytgkdjohiclhcoaa
