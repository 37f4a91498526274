/- Frames: the three looks. -/
import Derived.Test.YtfgglffjigolhaaFrameB
namespace Go.Proofs.Ytfgglffjigolhaa
open Go.RowKit

def scan (L : List UInt8) : Nat → Nat → Nat × Nat
  | 0, _ => (2, 0)
  | f + 1, n => if n < L.length then (if isBodyB (L.getD n 0) then (if 76 < n then (2, 0) else scan L f (n + 1)) else (1, n)) else (0, 0)
theorem scan_succ (L : List UInt8) (f n : Nat) : scan L (f + 1) n = if n < L.length then (if isBodyB (L.getD n 0) then (if 76 < n then (2, 0) else scan L f (n + 1)) else (1, n)) else (0, 0) := rfl
def nmeaM (L : List UInt8) : Nat × Nat × List UInt8 :=
  if (scan L 78 1).1 = 1 then (endsM L (scan L 78 1).2 (tailM ((L.take (scan L 78 1).2).drop 1)), (scan L 78 1).2 + 5, (L.take (scan L 78 1).2).drop 1) else ((scan L 78 1).1, 0, [])

/-- What a look tells: a state, a length, a body. -/
def Fresh (B : Nat) (v : Value) : Prop := ∀ k, v.ownBlock = some k → B ≤ k
theorem Fresh.nil (B : Nat) (n c : Nat) : Fresh B (.slice none n c) := fun k h => by cases h
theorem Fresh.low {B B' : Nat} {v : Value} (h : Fresh B v) (hB : B' ≤ B) : Fresh B' v := fun k hk => Nat.le_trans hB (h k hk)
theorem OwnB.fresh {w : World} {base B : Nat} {v : Value} {L : List UInt8} (h : OwnB w base v L) (hB : B ≤ base) : Fresh B v := by
  intro k hk
  rcases h.2 with ⟨rfl, _⟩ | ⟨g, cap, cur, rfl, hg, _⟩
  · cases hk
  · have : g = k := by simpa [Value.ownBlock] using hk
    omega
theorem below_sz {a b : World} (h : Below a.heap.size a b) : a.heap.size ≤ b.heap.size := h.size
def Looks (B : Nat) (w' : World) (e : Ending) (r : Nat × Nat × List UInt8) : Prop := ∃ v, e = .returned (.tuple #[.int .u8 (r.1 : Int), .int .i64 (r.2.1 : Int), v]) ∧ Bs w' v r.2.2 ∧ Fresh B v
theorem looks_nil {B : Nat} {w' : World} {s : Nat} {r : Nat × Nat × List UInt8} (h : r = (s, 0, [])) : Looks B w' (.returned (.tuple #[.int .u8 (s : Int), .int .i64 0, .slice none 0 0])) r := by
  subst h; exact ⟨_, rfl, Bs.nil _, Fresh.nil _ _ _⟩
theorem looks_mk {B : Nat} {w' : World} {s n : Nat} {i : Int} {b b' : List UInt8} {v : Value} {r : Nat × Nat × List UInt8} (h : r = (s, n, b)) (hi : i = n) (hb : b' = b) (hv : Bs w' v b') (hf : Fresh B v) : Looks B w' (.returned (.tuple #[.int .u8 (s : Int), .int .i64 i, v])) r := by
  subst h hi hb; exact ⟨v, rfl, hv, hf⟩

set_option maxRecDepth 100000 in
set_option maxHeartbeats 1600000 in
theorem nmea_any (g size : Nat) (L : List UInt8) (lost : Int) (w : World) (h : IsRing w g size L lost) :
    Calls Try.prog 96 #[.agg #[.pointer (some ⟨g, 0, none⟩)]] w fun e w' => Looks w.heap.size w' e (nmeaM L) ∧ Below w.heap.size w w' := by
  have H := Lib.hid h
  clear h
  go_enter Try.func96, Try.ntmps96
  go_wp2_with fail
  go_loopw [5] (fun i wr => ∃ n : Nat, 1 ≤ n ∧ n ≤ 77 ∧ i = .int .i64 n ∧ scan L 78 1 = scan L (79 - n) n ∧ Below w.heap.size w wr ∧ wr.heap[w.heap.size]? = some (.cells #[.pointer (some ⟨g, 0, none⟩)] 181 (0, 0))) (fun i _ => 78 - (intOf i).toNat)
  case atStart => exact ⟨1, by omega, by omega, rfl, rfl, (Below.refl _ _).alloc (Nat.le_refl _) _, heap_alloc_same _ _⟩
  case round =>
    obtain ⟨n, hn1, hn2, rfl, hs, hB, hb⟩ := hrel
    obtain ⟨f, hf⟩ : ∃ f, 79 - n = f + 1 := ⟨78 - n, by omega⟩
    rw [hf, scan_succ L f n] at hs
    have hcb : wr.cell? ⟨w.heap.size, 0, none⟩ = some (.pointer (some ⟨g, 0, none⟩)) := (cell_of hb 0).trans rfl
    have HR := Lib.hid (H.out.below hB)
    have B0 := Lib.hid hB
    have HH := Lib.hid hb
    have HF := Lib.hid hf
    clear hB hb hf
    by_cases hin : n < L.length
    · obtain ⟨x, hx⟩ := getElem?_some' hin
      rw [if_pos hin, show L.getD n 0 = x by simp [List.getD, hx]] at hs
      have X := Lib.hid hx
      clear hx
      by_cases hbx : isBodyB x = true
      · rw [if_pos hbx] at hs
        by_cases h76 : 76 < n
        · rw [if_pos h76] at hs
          have hm : nmeaM L = (2, 0, []) := by unfold nmeaM; rw [hs]; rfl
          have HM := Lib.hid hm
          have HX := Lib.hid hbx
          clear hs hm hbx
          go_wp2_with (first | (go_at_call 124; refine (byte_yes g size L lost n _ x _ rfl HR.out X.out).mono ?_; rintro e w1 ⟨rfl, hb1⟩; have hB1 := below_more B0.out hb1 (Nat.le_refl _); have B1 := Lib.hid hB1; clear hb1 hB1) | (go_at_call 69; refine (isBody_any x _).mono ?_; rintro e w' ⟨rfl, rfl⟩; rw [HX.out]))
          go_ret3
          exact ⟨looks_nil (s := 2) HM.out, B1.out⟩
        · rw [if_neg h76] at hs
          have HX := Lib.hid hbx
          have HS := Lib.hid hs
          clear hs hbx
          go_wp2_with (first | (go_at_call 124; refine (byte_yes g size L lost n _ x _ rfl HR.out X.out).mono ?_; rintro e w1 ⟨rfl, hb1⟩; have hB1 := below_more B0.out hb1 (Nat.le_refl _); have B1 := Lib.hid hB1; have hh := (hb1.block _ (heap_lt HH.out)).trans HH.out; have HH1 := Lib.hid hh; clear hb1 hB1 hh) | (go_at_call 69; refine (isBody_any x _).mono ?_; rintro e w' ⟨rfl, rfl⟩; rw [HX.out]))
          go_roundw
          case rel => exact ⟨n + 1, by omega, by omega, by go_num, by rw [HS.out]; congr 1; have := HF.out; omega, B1.out, HH1.out⟩
          case measure => simp [intOf]; omega
      · have hbx' : isBodyB x = false := by simpa using hbx
        rw [if_neg hbx] at hs
        have HX := Lib.hid hbx'
        have HS := Lib.hid hs
        have hsome := fun W hR => some_any g size L lost 1 n 1 n W rfl rfl hR hn1 (Nat.le_of_lt hin)
        have hm : nmeaM L = (endsM L n (tailM ((L.take n).drop 1)), n + 5, (L.take n).drop 1) := by unfold nmeaM; rw [hs]; rfl
        have hbl : ((L.take n).drop 1).length ≤ 140737488355328 := by rw [List.length_drop, List.length_take]; omega
        obtain ⟨Bd, hBd⟩ : ∃ Bd, Bd = (L.take n).drop 1 := ⟨_, rfl⟩
        rw [← hBd] at hm hbl
        simp only [← hBd] at hsome
        have HBD := Lib.hid hBd
        have HM := Lib.hid hm
        have HBL := Lib.hid hbl
        have HSM := Lib.hid hsome
        have HN77 : Hid (n ≤ 1000000) := Lib.hid (by omega)
        have hw5 : IntKind.i64.wrap ((n : Int) + 5) = (n : Int) + 5 := IntWalk.i64_in _ (by omega)
        clear hs hbx hbx' hsome hm hbl hBd
        go_wp2_with (first | (go_at_call 124; refine (byte_yes g size L lost n _ x _ rfl HR.out X.out).mono ?_; rintro e w1 ⟨rfl, hb1⟩; have hB1 := below_more B0.out hb1 (Nat.le_refl _); have B1 := Lib.hid hB1; have hh := (hb1.block _ (heap_lt HH.out)).trans HH.out; have HH1 := Lib.hid hh; have hc1 : w1.cell? ⟨w.heap.size, 0, none⟩ = some (.pointer (some ⟨g, 0, none⟩)) := (cell_of hh 0).trans rfl; clear hb1 hB1 hh) | (go_at_call 69; refine (isBody_any x _).mono ?_; rintro e w' ⟨rfl, rfl⟩; rw [HX.out]) | (go_at_call 125; refine (HSM.out _ (H.out.below B1.out)).mono ?_; rintro e w2 ⟨v, rfl, hbs, hb2, fr⟩; have FR := Lib.hid (Fresh.low fr (below_sz B1.out)); clear fr; have hB2 := below_more B1.out hb2 (Nat.le_refl _); have B2 := Lib.hid hB2; have hh := (hb2.block _ (heap_lt HH1.out)).trans HH1.out; have HH2 := Lib.hid hh; have hc2 : w2.cell? ⟨w.heap.size, 0, none⟩ = some (.pointer (some ⟨g, 0, none⟩)) := (cell_of hh 0).trans rfl; have V := Lib.hid hbs; clear hb2 hB2 hh hbs))
        go_region_held3 (fun w' => w'.cell? ⟨w.heap.size, 0, none⟩ = some (.pointer (some ⟨g, 0, none⟩))) (first | go_keep | exact hc3 | exact hc4) (first | (go_at_call 71; refine (tail_any v _ _ (V.out.drewN 1) HBL.out).mono ?_; rintro e w3 ⟨v3, rfl, ho3, hb3⟩; have hc3 : w3.cell? ⟨w.heap.size, 0, none⟩ = some (.pointer (some ⟨g, 0, none⟩)) := (hb3.cell (p := ⟨w.heap.size, 0, none⟩) (heap_lt HH2.out)).trans hc2; have V3 := Lib.hid ho3; have B3 := Lib.hid hb3; clear ho3 hb3) | (go_at_call 126; refine (ends_any g size L _ lost n _ v3 _ rfl (H.out.below (below_more B2.out (below_ofDrewN B3.out) (Nat.le_refl _))) V3.out.bs (by show 5 ≤ 4096; decide) HN77.out).mono ?_; rintro e w4 ⟨rfl, hb4⟩; have hc4 : w4.cell? ⟨w.heap.size, 0, none⟩ = some (.pointer (some ⟨g, 0, none⟩)) := (hb4.cell (p := ⟨w.heap.size, 0, none⟩) (World.block_lt_of_cell? w3 _ hc3)).trans hc3; have B4 := Lib.hid hb4; clear hb4))
        go_wp2_with fail
        go_ret3
        refine ⟨?_, below_more (below_more B2.out (below_ofDrewN B3.out) (Nat.le_refl _)) B4.out (Nat.le_refl _)⟩
        rw [HM.out]
        exact ⟨v, rfl, (V.out.below (below_ofDrewN B3.out)).below B4.out, FR.out⟩
    · rw [if_neg hin] at hs
      have hm : nmeaM L = (0, 0, []) := by unfold nmeaM; rw [hs]; rfl
      have HM := Lib.hid hm
      clear hs hm
      go_wp2_with (go_at_call 124; refine (byte_no g size L lost n _ _ rfl HR.out (by omega)).mono ?_; rintro e w1 ⟨rfl, hb1⟩; have hB1 := below_more B0.out hb1 (Nat.le_refl _); have B1 := Lib.hid hB1; clear hb1 hB1)
      go_ret3
      exact ⟨looks_nil (s := 0) HM.out, B1.out⟩
end Go.Proofs.Ytfgglffjigolhaa
