/- Frames: All; the ring's Copy. -/
import Derived.Test.YtfgglffjigolhaaFrameG
import Derived.Test.YtfgglffjigolhaaSame
import Derived.Deep.WholeRow
import Derived.Maps.AppendAt
namespace Go.Proofs.Ytfgglffjigolhaa
open Go.RowKit

section
variable {P : Program} {Q : Exit → Act → World → Prop} {rest : List Oper} {ops : Array Oper} {o : Oper} {a : Act} {w : World}
theorem ld_at {d : Option Tmp} {t ty : TypeId} {x : Operand} {p : String} {af : Array Edge} (h : wpList P ops Q (Oper.mk d (Op.load t x) ty p af none :: rest) a w) :
    wpList P ops Q (Oper.mk d (Op.load t x) ty p af none :: rest) a w := h
theorem st_at {d : Option Tmp} {t ty : TypeId} {x y : Operand} {p : String} {af : Array Edge} (h : wpList P ops Q (Oper.mk d (Op.store t x y) ty p af none :: rest) a w) :
    wpList P ops Q (Oper.mk d (Op.store t x y) ty p af none :: rest) a w := h
/-- A whole struct stored into the block that was made last. -/
theorem wpList_store_new (hgd : o.guard = none) (ty : TypeId) (x y : Operand) (ho : o.op = .store ty x y) (w0 : World) (t : TypeId) (c cells : Array Value) (hw : w = w0.alloc (.cells c t))
    (hx : a.eval x = .pointer (some ⟨w0.heap.size, 0, none⟩)) (hy : a.eval y = .agg cells) (hi : (P.info? ty).map (·.size) = some cells.size) (hsz : c.size = cells.size) (h1 : cells.all (·.oneCell') = true)
    (h : wpList P ops Q rest (a.put o.dst undef) (w0.alloc (.cells cells t))) : wpList P ops Q (o :: rest) a w := by
  subst hw
  refine wpList_plain hgd fun _ hK => ?_
  unfold Oper.wp execOp
  simp only [ho, hx, hy, Instr.storeAt, Instr.sureAddr, Sem.run_bind, Sem.run_pure, Result.andThen_ok, run_storeVar_row (P := P) _ w0.heap.size t ty c cells (heap_alloc_last w0 _) hi hsz h1, World.setRow_alloc_new]
  exact hK _ _ h
end

theorem ringArr_one {b : List UInt8} (size first n lost : Int) : (ringArr b size first n lost).all (·.oneCell') = true := by
  refine Array.all_eq_true_iff_forall_mem.2 fun v hv => ?_
  unfold ringArr at hv
  simp only [List.mem_toArray, List.mem_append, List.mem_map, List.mem_cons, List.not_mem_nil, or_false] at hv
  rcases hv with ⟨x, _, rfl⟩ | rfl | rfl | rfl | rfl <;> rfl

set_option maxRecDepth 100000 in
set_option maxHeartbeats 1600000 in
theorem ring_copy (g size : Nat) (L : List UInt8) (lost : Int) (w : World) (h : IsRing w g size L lost) :
    Calls Try.prog 30 #[.pointer (some ⟨g, 0, none⟩)] w fun e w' => e = .returned (.pointer (some ⟨w.heap.size, 0, none⟩)) ∧ IsRing w' w.heap.size size L lost ∧ Below w.heap.size w w' := by
  obtain ⟨b, first, hh, hb, r⟩ := h
  have hsz : (ringArr b size first L.length lost).size = 4100 := by unfold ringArr; simp [hb]
  have hone := ringArr_one (b := b) size first L.length lost
  obtain ⟨cs, hcs⟩ : ∃ cs, cs = ringArr b size first L.length lost := ⟨_, rfl⟩
  rw [← hcs] at hh hsz hone
  have hi : (Try.prog.info? 124).map (·.size) = some cs.size := by rw [hsz]; kernel_rfl
  have hz : Try.zeroCells124.size = cs.size := by rw [hsz]; kernel_rfl
  have HH := Lib.hid hh
  have HI := Lib.hid hi
  have HZ := Lib.hid hz
  have HO := Lib.hid hone
  have HC := Lib.hid hcs
  clear hh hsz hone hi hz hcs
  go_enter Try.func30, Try.ntmps30
  go_wp2_with (first | (with_reducible refine ld_at ?_; refine wpList_load_row rfl 124 _ rfl g rfl 124 cs (0, 0) _ HH.out Try.underlying124 rfl HI.out ?_) | (with_reducible refine st_at ?_; refine wpList_store_new rfl 124 _ _ rfl w 124 _ cs rfl rfl rfl HI.out HZ.out HO.out ?_))
  go_ret
  exact ⟨rfl, ⟨b, first, by rw [← HC.out]; exact heap_alloc_last w _, hb, r⟩, (Below.refl _ _).alloc (Nat.le_refl _) _⟩

/-! All, plainly. -/
theorem nextM_fuel (size : Nat) : ∀ (f f' : Nat) (L : List UInt8), L.length < f → L.length < f' → nextM size f L = nextM size f' L
  | 0, _, L, h, _ => absurd h (Nat.not_lt_zero _)
  | _, 0, L, _, h => absurd h (Nat.not_lt_zero _)
  | f + 1, f' + 1, L, h, h' => by
    rw [nextM_succ, nextM_succ]
    by_cases h0 : (beginM size L).1 = 0
    · rw [if_pos h0, if_pos h0]
    · rw [if_neg h0, if_neg h0]
      by_cases h1 : (beginM size L).1 = 1
      · rw [if_pos h1, if_pos h1]
      · rw [if_neg h1, if_neg h1]
        have hne : L ≠ [] := by rintro rfl; exact h0 rfl
        have hpos : 0 < L.length := List.length_pos_iff.mpr hne
        rw [nextM_fuel size f f' (L.drop 1) (by rw [List.length_drop]; omega) (by rw [List.length_drop]; omega)]
theorem endsM_pos {L : List UInt8} {frm : Nat} {xs : List UInt8} (hx : xs ≠ []) (h : endsM L frm xs = 1) : frm < L.length := by
  cases xs with
  | nil => exact absurd rfl hx
  | cons x xs =>
    rw [endsM_cons] at h
    by_cases hl : frm < L.length
    · exact hl
    · rw [if_neg hl] at h; cases h
/-- A frame that begins has at least one byte. -/
theorem beginM_pos {size : Nat} {L : List UInt8} (h : (beginM size L).1 = 1) : 1 ≤ (beginM size L).2.1 := by
  unfold beginM at h ⊢
  cases L with
  | nil => cases h
  | cons c xs =>
    simp only at h ⊢
    by_cases c1 : c = 36
    · rw [if_pos c1] at h ⊢
      unfold judge at h ⊢
      by_cases hj : (nmeaM (c :: xs)).1 = 0 ∧ (c :: xs).length = size
      · rw [if_pos hj] at h; cases h
      · rw [if_neg hj] at h ⊢
        simp only at h ⊢
        unfold nmeaM at h ⊢
        by_cases hs : (scan (c :: xs) 78 1).1 = 1
        · rw [if_pos hs]; simp
        · rw [if_neg hs] at h; simp only at h; exact absurd h hs
    · rw [if_neg c1] at h ⊢
      by_cases c2 : c = 181
      · rw [if_pos c2] at h ⊢
        unfold judge at h ⊢
        by_cases hj : (ubxM size (c :: xs)).1 = 0 ∧ (c :: xs).length = size
        · rw [if_pos hj] at h; cases h
        · rw [if_neg hj] at h ⊢
          simp only at h ⊢
          unfold ubxM at h ⊢
          by_cases hs : (beginsM (c :: xs) 98 4 false).2 = 1
          · rw [if_pos hs] at h ⊢
            by_cases h1 : 520 < (beginsM (c :: xs) 98 4 false).1 + 8 ∨ size < (beginsM (c :: xs) 98 4 false).1 + 8
            · rw [if_pos h1] at h; cases h
            · rw [if_neg h1] at h ⊢
              by_cases h2 : (c :: xs).length < (beginsM (c :: xs) 98 4 false).1 + 6
              · rw [if_pos h2] at h; cases h
              · rw [if_neg h2]; simp
          · rw [if_neg hs] at h; simp only at h; exact absurd h hs
      · rw [if_neg c2] at h ⊢
        by_cases c3 : c = 160
        · rw [if_pos c3] at h ⊢
          unfold judge at h ⊢
          by_cases hj : (sirfM size (c :: xs)).1 = 0 ∧ (c :: xs).length = size
          · rw [if_pos hj] at h; cases h
          · rw [if_neg hj] at h ⊢
            simp only at h ⊢
            unfold sirfM at h ⊢
            by_cases hs : (beginsM (c :: xs) 162 2 true).2 = 1
            · rw [if_pos hs] at h ⊢
              by_cases h1 : 1031 < (beginsM (c :: xs) 162 2 true).1 + 8 ∨ size < (beginsM (c :: xs) 162 2 true).1 + 8
              · rw [if_pos h1] at h; cases h
              · rw [if_neg h1] at h ⊢
                by_cases h2 : (c :: xs).length < (beginsM (c :: xs) 162 2 true).1 + 4
                · rw [if_pos h2] at h; cases h
                · rw [if_neg h2]; simp
            · rw [if_neg hs] at h; simp only at h; exact absurd h hs
        · rw [if_neg c3] at h; cases h

/-- What is left behind Next. -/
theorem nextM_rest (size : Nat) : ∀ (f : Nat) (L : List UInt8), L.length < f → (nextM size f L).1 + (nextM size f L).2.2.2.2.length ≤ L.length ∧ ((nextM size f L).2.1 = true → (nextM size f L).1 + (nextM size f L).2.2.2.2.length < L.length) ∧
    ((nextM size f L).2.1 = false → (nextM size f L).1 + (nextM size f L).2.2.2.2.length = L.length)
  | 0, L, h => absurd h (Nat.not_lt_zero _)
  | f + 1, L, h => by
    rw [nextM_succ]
    by_cases h0 : (beginM size L).1 = 0
    · rw [if_pos h0]; simp
    · have hne : L ≠ [] := by rintro rfl; exact h0 rfl
      have hpos : 0 < L.length := List.length_pos_iff.mpr hne
      rw [if_neg h0]
      by_cases h1 : (beginM size L).1 = 1
      · have := beginM_pos h1
        rw [if_pos h1]
        simp only [List.length_drop]
        exact ⟨by omega, fun _ => by omega, fun h => by cases h⟩
      · rw [if_neg h1]
        obtain ⟨i1, i2, i3⟩ := nextM_rest size f (L.drop 1) (by rw [List.length_drop]; omega)
        rw [List.length_drop] at i1 i2 i3
        exact ⟨by simp only; omega, fun h => by have := i2 h; simp only; omega, fun h => by have := i3 h; simp only; omega⟩
abbrev nextC (size : Nat) (L : List UInt8) : Nat × Bool × Nat × List UInt8 × List UInt8 := nextM size (L.length + 1) L
def allM (size : Nat) : Nat → List UInt8 → List (Nat × List UInt8) × Nat × List UInt8
  | 0, L => ([], 0, L)
  | f + 1, L =>
    if (nextC size L).2.1 = true then
      (((nextC size L).2.2.1, (nextC size L).2.2.2.1) :: (allM size f (nextC size L).2.2.2.2).1, (nextC size L).1 + (allM size f (nextC size L).2.2.2.2).2.1, (allM size f (nextC size L).2.2.2.2).2.2)
    else ([], (nextC size L).1, (nextC size L).2.2.2.2)
theorem allM_succ (size f : Nat) (L : List UInt8) : allM size (f + 1) L =
    if (nextC size L).2.1 = true then
      (((nextC size L).2.2.1, (nextC size L).2.2.2.1) :: (allM size f (nextC size L).2.2.2.2).1, (nextC size L).1 + (allM size f (nextC size L).2.2.2.2).2.1, (allM size f (nextC size L).2.2.2.2).2.2)
    else ([], (nextC size L).1, (nextC size L).2.2.2.2) := by rw [allM]

/-! A row of frames of the call's own. -/
abbrev FrameV := Nat × List UInt8 × Value
def rowF (F : List FrameV) : List Value := F.flatMap fun x => [.int .u8 (x.1 : Int), x.2.2]
def listF (F : List FrameV) : List (Nat × List UInt8) := F.map fun x => (x.1, x.2.1)
theorem rowF_even (F : List FrameV) : ∀ i, (rowF F)[i * 2]? = F[i]?.map fun x => .int .u8 (x.1 : Int) := by
  induction F with
  | nil => intro i; rfl
  | cons x F ih =>
    intro i
    cases i with
    | zero => rfl
    | succ i => rw [Nat.succ_mul]; exact ih i
theorem rowF_odd (F : List FrameV) : ∀ i, (rowF F)[i * 2 + 1]? = F[i]?.map fun x => x.2.2 := by
  induction F with
  | nil => intro i; rfl
  | cons x F ih =>
    intro i
    cases i with
    | zero => rfl
    | succ i => rw [Nat.succ_mul]; exact ih i
def OwnF (w : World) (base : Nat) (v : Value) (F : List FrameV) : Prop :=
  w.ownsRow base 39 2 v F.length (rowF F) ∧ ∀ x ∈ F, Bs w x.2.2 x.2.1 ∧ (x.2.1 ≠ [] → ∀ k, x.2.2.ownBlock = some k → v.ownBlock ≠ some k) ∧ Fresh base x.2.2
theorem OwnF.nil (w : World) (base : Nat) : OwnF w base (.slice none 0 0) [] := ⟨World.ownsRow_nil _ _ _ _, fun x hx => by cases hx⟩
theorem OwnF.form {w : World} {base : Nat} {v : Value} {F : List FrameV} (h : OwnF w base v F) : ∃ A c, v = .slice A F.length c := by
  rcases h.1.2 with ⟨rfl, hn⟩ | ⟨g, cap, cur, rfl, _⟩
  · exact ⟨none, 0, by rw [hn]⟩
  · exact ⟨_, _, rfl⟩
theorem OwnF.fss {w : World} {base : Nat} {v : Value} {F : List FrameV} (h : OwnF w base v F) : Fss w v (listF F) := by
  have hlen : (listF F).length = F.length := by simp [listF]
  rcases h.1.2 with ⟨rfl, hn⟩ | ⟨g, cap, cur, rfl, hb, hg, hnc, _⟩
  · have : F = [] := List.eq_nil_of_length_eq_zero hn
    subst this
    exact ⟨none, 0, rfl, Nat.le_refl _, fun i hi => absurd hi (Nat.not_lt_zero i)⟩
  · refine ⟨_, _, by rw [hlen], by omega, fun i hi => ?_⟩
    have hi' : i < F.length := by omega
    have c0 := h.1.cells (g := g) rfl (i * 2) (.int .u8 (F[i].1 : Int)) (by rw [rowF_even, List.getElem?_eq_getElem hi']; rfl)
    have c1 := h.1.cells (g := g) rfl (i * 2 + 1) F[i].2.2 (by rw [rowF_odd, List.getElem?_eq_getElem hi']; rfl)
    rw [Addr.add_lit] at c0 c1
    refine ⟨g, 0, F[i].2.2, rfl, ?_, ?_, ?_⟩
    · simpa [listF] using c0
    · simpa [listF, Nat.add_assoc] using c1
    · have := (h.2 F[i] (List.getElem_mem _)).1
      simpa [listF] using this
theorem OwnF.at_ {w : World} {base n c j : Nat} {A : Option Addr} {F : List FrameV} (h : OwnF w base (.slice A n c) F) (hj : j < F.length) :
    ∃ g u, A = some ⟨g, 0, none⟩ ∧ w.cell? ⟨g, j * 2, none⟩ = some (.int .u8 (F[j].1 : Int)) ∧ w.cell? ⟨g, j * 2 + 1, none⟩ = some u ∧ Bs w u F[j].2.1 ∧ Fresh base u := by
  rcases h.1.2 with ⟨_, hn⟩ | ⟨g, cap, cur, he, hb, hg, hnc, _⟩
  · omega
  · injection he with h1 h2 h3
    subst h1 h2 h3
    have c0 := h.1.cells (g := g) rfl (j * 2) (.int .u8 (F[j].1 : Int)) (by rw [rowF_even, List.getElem?_eq_getElem hj]; rfl)
    have c1 := h.1.cells (g := g) rfl (j * 2 + 1) F[j].2.2 (by rw [rowF_odd, List.getElem?_eq_getElem hj]; rfl)
    rw [Addr.add_lit] at c0 c1
    obtain ⟨h1, _, h3⟩ := h.2 F[j] (List.getElem_mem _)
    exact ⟨g, F[j].2.2, rfl, by simpa using c0, by simpa using c1, h1, h3⟩
theorem allM_count (size : Nat) : ∀ (f : Nat) (L : List UInt8), L.length < f → (allM size f L).1.length ≤ L.length
  | 0, L, h => absurd h (Nat.not_lt_zero _)
  | f + 1, L, h => by
    rw [allM_succ]
    obtain ⟨h1, h2, h3⟩ := nextM_rest size (L.length + 1) L (by omega)
    unfold nextC
    split
    · rename_i hok
      have := h2 hok
      have ih := allM_count size f (nextM size (L.length + 1) L).2.2.2.2 (by omega)
      simp only [List.length_cons]
      omega
    · simp
theorem Bs.empty {w w' : World} {v : Value} (h : Bs w v []) : Bs w' v [] := by
  obtain ⟨A, c, rfl, hle, _⟩ := h
  exact ⟨A, c, rfl, hle, fun i hi => absurd hi (Nat.not_lt_zero i)⟩
theorem OwnF.ext {w w' : World} {base g : Nat} {v : Value} {F : List FrameV} (h : OwnF w base v F) (hE : Ext (OneB g) w w') (hg : g < base) : OwnF w' base v F := by
  refine ⟨h.1.kept (row := some g) ⟨hE.os, hE.tape, hE.output, hE.size, fun k hk hn => hE.block k hk (fun e => hn (congrArg some e))⟩ ?_, fun x hx => ?_⟩
  · right
    intro e
    have := (h.1.lt g e).1
    omega
  · obtain ⟨h1, h2, h3⟩ := h.2 x hx
    exact ⟨h1.kept hE (fun k _ hk e => by have h4 := h3 k hk; have : k = g := e; omega), h2, h3⟩
theorem OwnF.below {w w' : World} {base : Nat} {v : Value} {F : List FrameV} (h : OwnF w base v F) (hE : Below w.heap.size w w') : OwnF w' base v F :=
  ⟨h.1.kept (row := none) ⟨hE.os, hE.tape, hE.output, hE.size, fun k hk _ => hE.block k hk⟩ (by cases v.ownBlock <;> simp), fun x hx => ⟨(h.2 x hx).1.below hE, (h.2 x hx).2⟩⟩
theorem OwnF.alloc {w : World} {base : Nat} {v : Value} {F : List FrameV} (h : OwnF w base v F) (o : Obj) : OwnF (w.alloc o) base v F := h.below ((Below.refl _ _).alloc (Nat.le_refl _) o)
theorem OwnF.push {w w' : World} {base : Nat} {v v' u : Value} {F : List FrameV} {k : Nat} {b : List UInt8} (h : OwnF w base v F) (hu : Bs w u b) (hf : Fresh base u) (hne : b ≠ [] → ∀ k, u.ownBlock = some k → v.ownBlock ≠ some k)
    (hown : w'.ownsRow base 39 2 v' (F.length + 1) (rowF F ++ [.int .u8 (k : Int), u])) (hg : w.grownBy w' v.ownBlock) (hat : v'.ownBlock = v.ownBlock ∨ v'.ownBlock = some w.heap.size) : OwnF w' base v' (F ++ [(k, b, u)]) := by
  have keep : ∀ (u : Value) (b : List UInt8), Bs w u b → (b ≠ [] → ∀ k, u.ownBlock = some k → v.ownBlock ≠ some k) → Bs w' u b ∧ (b ≠ [] → ∀ k, u.ownBlock = some k → v'.ownBlock ≠ some k) := fun u b hu hne => by
    by_cases hb : b = []
    · subst hb; exact ⟨hu.empty, fun h => absurd rfl h⟩
    · have hlt := hu.own_lt (List.length_pos_iff.mpr hb)
      refine ⟨?_, fun _ k hk e => ?_⟩
      · obtain ⟨A, c, rfl, hle, hc⟩ := hu
        refine ⟨A, c, rfl, hle, fun i hi => ?_⟩
        obtain ⟨gb, off, rfl, h1⟩ := hc i hi
        exact ⟨gb, off, rfl, hg.cell h1 (fun e => hne hb gb rfl e.symm)⟩
      · rcases hat with e' | e'
        · exact hne hb k hk (e'.symm.trans e)
        · have := hlt k hk
          rw [e'] at e
          injection e with e
          omega
  refine ⟨?_, fun x hx => ?_⟩
  · rw [List.length_append]
    unfold rowF at hown ⊢
    rw [List.flatMap_append]
    exact hown
  · rw [List.mem_append, List.mem_singleton] at hx
    rcases hx with hx | rfl
    · obtain ⟨h1, h2, h3⟩ := h.2 x hx
      exact ⟨(keep _ _ h1 h2).1, (keep _ _ h1 h2).2, h3⟩
    · exact ⟨(keep _ _ hu hne).1, (keep _ _ hu hne).2, hf⟩

theorem info_frame : (Try.prog.info? 39).map (fun i => (i.zero, i.size, i.bytes)) = some (some (.agg #[.int .u8 0, .slice none 0 0]), 2, 32) := by kernel_rfl
def ringLen (g : Nat) (w : World) : Nat := match w.cell? ⟨g, 4098, none⟩ with | some (.int _ n) => n.toNat | _ => 0
theorem ringLen_of {g size : Nat} {L : List UInt8} {lost : Int} {w : World} (h : IsRing w g size L lost) : ringLen g w = L.length := by
  obtain ⟨b, first, hc, _⟩ := h.open_
  unfold ringLen
  rw [hc.n]
  simp
def AllTo (g size f : Nat) (L : List UInt8) (lost : Int) (w wr : World) (l d : Value) : Prop :=
  ∃ (F : List FrameV) (D f' : Nat) (L' : List UInt8), d = .int .i64 D ∧ F.length + L'.length ≤ L.length ∧ D + L'.length ≤ L.length ∧ L'.length < f' ∧ OwnF wr w.heap.size l F ∧
    allM size f L = (listF F ++ (allM size f' L').1, D + (allM size f' L').2.1, (allM size f' L').2.2) ∧ IsRing wr g size L' lost ∧ Ext (OneB g) w wr
set_option maxRecDepth 100000 in
set_option maxHeartbeats 1600000 in
theorem all_any (g size : Nat) (L : List UInt8) (lost : Int) (w : World) (h : IsRing w g size L lost) (f : Nat) (hf : L.length < f) :
    Calls Try.prog 29 #[.pointer (some ⟨g, 0, none⟩)] w fun e w' => ∃ v F, e = .returned (.tuple #[v, .int .i64 ((allM size f L).2.1 : Int)]) ∧ OwnF w' w.heap.size v F ∧ listF F = (allM size f L).1 ∧ IsRing w' g size (allM size f L).2.2 lost ∧ Ext (OneB g) w w' := by
  have hlen := h.len
  have hg := h.lt
  have H := Lib.hid h
  clear h
  obtain ⟨i0, hi0, hz0, hz1, hz2⟩ := info_parts info_frame
  have HI := Lib.hid (And.intro hi0 (And.intro hz0 (And.intro hz1 hz2)))
  clear hi0 hz0 hz1 hz2
  go_enter Try.func29, Try.ntmps29
  go_wp2_with fail
  go_loopw [2, 3] (fun l d wr => AllTo g size f L lost w wr l d) (fun _ _ wr => ringLen g wr)
  case atStart => exact ⟨[], 0, f, L, rfl, by simp, by omega, hf, OwnF.nil _ _, by simp [listF], H.out, Ext.refl _ _⟩
  case round =>
    obtain ⟨F, D, f', L', rfl, hF, hD, hf', hO, hA, hR, hE⟩ := hrel
    obtain ⟨f', rfl⟩ : ∃ x, f' = x + 1 := ⟨f' - 1, by omega⟩
    have hnx := next_any g size L' lost _ hR (L'.length + 1) (by omega)
    have hrest := nextM_rest size (L'.length + 1) L' (by omega)
    rw [allM_succ] at hA
    unfold nextC at hA
    obtain ⟨⟨d, ok, k, b, M⟩, hr⟩ : ∃ r, r = nextM size (L'.length + 1) L' := ⟨_, rfl⟩
    rw [← hr] at hnx hrest hA
    simp only at hnx hrest hA
    simp only [Nexted] at hnx
    have hsz := hE.size
    have hdl := hrest.1
    have HNX := Lib.hid hnx
    have HO := Lib.hid hO
    have HR := Lib.hid hR
    have HE := Lib.hid hE
    clear hnx hO hR hE hr
    cases ok with
    | false =>
      rw [if_neg (by simp)] at hA
      have HA := Lib.hid hA
      clear hA hrest
      go_wp2_with (go_at_call 25; go_must (refine HNX.out.mono ?_; rintro e w1 ⟨⟨v1, rfl, hv1, fv1⟩, hr1, he1⟩; obtain ⟨A1, c1, rfl, hz1, hv1⟩ := hv1.form rfl; clear hz1; have R1 := Lib.hid hr1; have E1 := Lib.hid he1; clear hr1 he1 hv1 fv1))
      go_ret2
      rw [HA.out]
      exact ⟨_, F, by simp, ((HO.out.ext E1.out hg).alloc _), by simp, R1.out.alloc _, (HE.out.same E1.out).alloc _⟩
    | true =>
      rw [if_pos rfl] at hA
      have hlt := hrest.2.1 rfl
      have HA := Lib.hid hA
      clear hA hrest
      go_wp2_with (first | (go_at_call 25; go_must (refine HNX.out.mono ?_; rintro e w1 ⟨⟨v1, rfl, hv1, fv1⟩, hr1, he1⟩; obtain ⟨A1, c1, rfl, hz1, hv1⟩ := hv1.form rfl; clear hz1; have R1 := Lib.hid hr1; have E1 := Lib.hid he1; have V1 := Lib.hid hv1; have F1 := Lib.hid fv1; have O1 := Lib.hid (((HO.out.ext he1 hg).alloc (.cells #[.int .u8 (k : Int), .slice A1 b.length c1] 39)).alloc (.cells #[.int .u8 (k : Int), .slice A1 b.length c1] 39)); clear hr1 he1 hv1 fv1)) | (at_builtin; go_must (refine wpList_append_own_at _ rfl _ _ 53 (by rfl) w.heap.size 39 i0 (.agg #[.int .u8 0, .slice none 0 0]) 2 32 Try.underlying53 HI.out.1 HI.out.2.1 HI.out.2.2.1 HI.out.2.2.2 rfl (by decide) u2 F.length (rowF F) (by rfl) O1.out.1 ⟨w1.heap.size + 1, 0, none⟩ 1 1 [.int .u8 (k : Int), .slice A1 b.length c1] (by rfl) rfl (World.news_of_block (by simpa using heap_alloc_new (w1.alloc _) _)) (by simp [Value.oneCell']) (by simp only [maxLen]; omega) (by omega) (by have := E1.out.size; simp; omega) ?_; intro v2 w2 ho2 hg2 hn2 ha2)))
      go_roundw
      case rel =>
        have hwx : wr.heap.size ≤ w1.heap.size := E1.out.size
        have hpush := O1.out.push (u := .slice A1 b.length c1) (k := k) (b := b) (((V1.out).alloc _).alloc _) (F1.out.low hsz) (fun _ j hj e => by
          have h1 := F1.out j hj
          have h2 := (HO.out.1.lt j e).2
          omega) ho2 hg2 ha2
        refine ⟨F ++ [(k, b, .slice A1 b.length c1)], D + d, f', M, by go_num, by rw [List.length_append, List.length_cons, List.length_nil]; omega, by omega, by omega, hpush, ?_, ?_, ?_⟩
        · rw [HA.out]
          simp only [listF, List.map_append, List.map_cons, List.map_nil, List.append_assoc, List.cons_append, List.nil_append, Nat.add_assoc]
        · exact ((R1.out.alloc _).alloc _).heap_eq (hg2.block g (by simp; have := R1.out.lt; omega) (fun e => by have := (HO.out.1.lt g e.symm).1; omega))
        · exact ((HE.out.same E1.out).alloc _ |>.alloc _).grown hg2 (fun j hj => .inl (HO.out.1.lt j hj).1)
      case measure =>
        rw [ringLen_of HR.out, ringLen_of (((R1.out.alloc _).alloc _).heap_eq (hg2.block g (by simp; have := R1.out.lt; omega) (fun e => by have := (HO.out.1.lt g e.symm).1; omega)))]
        omega
end Go.Proofs.Ytfgglffjigolhaa
