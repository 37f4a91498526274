/- Slices of bytes of the call's own. -/
import Derived.Test.YtfgglffjigolhaaBase
namespace Go.Proofs.Ytfgglffjigolhaa
open Go.RowKit

theorem info_u8 : (Try.prog.info? 5).map (fun i => (i.zero, i.size, i.bytes)) = some (some (.int .u8 0), 1, 1) := by kernel_rfl
/-- An own row of bytes. -/
abbrev OwnB (w : World) (base : Nat) (v : Value) (L : List UInt8) : Prop := w.ownsRow base 5 1 v L.length (L.map bv)

theorem OwnB.bs {w : World} {base : Nat} {v : Value} {L : List UInt8} (h : OwnB w base v L) : Bs w v L := by
  rcases h.2 with ⟨rfl, hn⟩ | ⟨g, cap, cur, rfl, hb, hg, hn, hm, hs, ht⟩
  · have : L = [] := List.eq_nil_of_length_eq_zero hn
    subst this
    exact Bs.nil w
  · refine ⟨_, _, rfl, hn, fun i hi => ⟨g, 0, rfl, ?_⟩⟩
    have := h.cells (g := g) rfl i (bv L[i]) (by simp [hi])
    rw [Addr.add_lit] at this
    exact this


theorem own_made {w : World} {base : Nat} {cs : Array Value} {n : Nat} {L : List UInt8} (hcs : cs.toList = L.map bv) (hb : base ≤ w.heap.size) (hn : n = L.length) (hm : n ≤ 140737488355328) :
    OwnB (w.alloc (.cells cs 5)) base (.slice (some ⟨w.heap.size, 0, none⟩) n n) L := by
  subst hn
  have hs : cs.size = L.length := by rw [← Array.length_toList, hcs, List.length_map]
  exact ⟨by simp, .inr ⟨w.heap.size, L.length, cs, rfl, hb, heap_alloc_new w _, Nat.le_refl _, by simp only [maxLen]; omega, by omega, by rw [Nat.mul_one, hcs]; exact List.take_of_length_le (by simp)⟩⟩
theorem own2_bs (w : World) (p q : UInt8) : Bs (w.alloc (.cells #[bv p, bv q] 5)) (.slice (some ⟨w.heap.size, 0, none⟩) 2 2) [p, q] := (own_made (L := [p, q]) rfl (Nat.le_refl _) rfl (by simp)).bs
theorem own2_bsg (w : World) (p q : UInt8) {g : Nat} (hg : g = w.heap.size) : Bs (w.alloc (.cells #[bv p, bv q] 5)) (.slice (some ⟨g, 0, none⟩) 2 2) [p, q] := by subst hg; exact own2_bs w p q
theorem own1_bs (w : World) (p : UInt8) : Bs (w.alloc (.cells #[bv p] 5)) (.slice (some ⟨w.heap.size, 0, none⟩) 1 1) [p] := (own_made (L := [p]) rfl (Nat.le_refl _) rfl (by simp)).bs
theorem own1_bsg (w : World) (p : UInt8) {g : Nat} (hg : g = w.heap.size) : Bs (w.alloc (.cells #[bv p] 5)) (.slice (some ⟨g, 0, none⟩) 1 1) [p] := by subst hg; exact own1_bs w p
theorem own4_bs (w : World) (p q r s : UInt8) : Bs (w.alloc (.cells #[bv p, bv q, bv r, bv s] 5)) (.slice (some ⟨w.heap.size, 0, none⟩) 4 4) [p, q, r, s] := (own_made (L := [p, q, r, s]) rfl (Nat.le_refl _) rfl (by simp)).bs
theorem own4_bsg (w : World) (p q r s : UInt8) {g : Nat} (hg : g = w.heap.size) : Bs (w.alloc (.cells #[bv p, bv q, bv r, bv s] 5)) (.slice (some ⟨g, 0, none⟩) 4 4) [p, q, r, s] := by subst hg; exact own4_bs w p q r s
theorem own1_bsi {w : World} {i : Int} {p : UInt8} {g : Nat} (hg : g = w.heap.size) (h1 : i = (p.toNat : Int)) : Bs (w.alloc (.cells #[.int .u8 i] 5)) (.slice (some ⟨g, 0, none⟩) 1 1) [p] := by subst hg h1; exact own1_bs w p
theorem own2_bsi {w : World} {i j : Int} {p q : UInt8} {g : Nat} (hg : g = w.heap.size) (h1 : i = (p.toNat : Int)) (h2 : j = (q.toNat : Int)) : Bs (w.alloc (.cells #[.int .u8 i, .int .u8 j] 5)) (.slice (some ⟨g, 0, none⟩) 2 2) [p, q] := by subst hg h1 h2; exact own2_bs w p q
theorem own4_bsi {w : World} {i j k l : Int} {p q r s : UInt8} {g : Nat} (hg : g = w.heap.size) (h1 : i = (p.toNat : Int)) (h2 : j = (q.toNat : Int)) (h3 : k = (r.toNat : Int)) (h4 : l = (s.toNat : Int)) : Bs (w.alloc (.cells #[.int .u8 i, .int .u8 j, .int .u8 k, .int .u8 l] 5)) (.slice (some ⟨g, 0, none⟩) 4 4) [p, q, r, s] := by subst hg h1 h2 h3 h4; exact own4_bs w p q r s
theorem below_keep {w w' : World} {p : Addr} {v : Value} (h : Below w.heap.size w w') (hc : w.cell? p = some v) : w'.cell? p = some v := (h.cell (World.block_lt_of_cell? w p hc)).trans hc
theorem OwnB.drewN {w : World} {base : Nat} {v : Value} {L : List UInt8} (h : OwnB w base v L) (n : Nat) : OwnB (w.drewN n) base v L := h
theorem OwnB.drew {w : World} {base : Nat} {v : Value} {L : List UInt8} (h : OwnB w base v L) : OwnB w.drew base v L := h
theorem OwnB.alloc {w : World} {base : Nat} {v : Value} {L : List UInt8} (h : OwnB w base v L) (o : Obj) : OwnB (w.alloc o) base v L := World.ownsRow.alloc h o
theorem OwnB.below {w w' : World} {base : Nat} {v : Value} {L : List UInt8} (h : OwnB w base v L) (hB : Below w.heap.size w w') : OwnB w' base v L :=
  World.ownsRow.kept h (row := none) ⟨hB.os, hB.tape, hB.output, hB.size, fun k hk _ => hB.block k hk⟩ (by cases v.ownBlock <;> simp)
theorem OwnB.base {w : World} {base base' : Nat} {v : Value} {L : List UInt8} (h : OwnB w base v L) (hb : base' ≤ base) : OwnB w base' v L := by
  refine ⟨h.1, ?_⟩
  rcases h.2 with hn | ⟨g, cap, cur, hv, hg, r⟩
  · exact .inl hn
  · exact .inr ⟨g, cap, cur, hv, Nat.le_trans hb hg, r⟩

theorem bv_one (L : List UInt8) : ∀ u ∈ L.map bv, u.oneCell' = true := by
  intro u hu
  obtain ⟨x, _, rfl⟩ := List.mem_map.1 hu
  rfl

section
variable {ops : Array Oper} {rest : List Oper} {o : Oper} {a : Act} {Q : Exit → Act → World → Prop} {w : World}
/-- append of one byte, that stands in a block of its own. -/
theorem wp_append_byte {K : Act → World → Prop} (s x : Operand)
    (ho : o.op = .call { callee := .builtin .append, args := #[s, x], argTypes := #[30, 30] })
    (base : Nat) (v : Value) (L : List UInt8) (hs : a.eval s = v) (hown : OwnB w base v L) (g : Nat) (y : UInt8) (hx : a.eval x = .slice (some ⟨g, 0, none⟩) 1 1)
    (hc : w.cell? ⟨g, 0, none⟩ = some (bv y)) (hl : L.length ≤ 140737488355000) (hbase : base ≤ w.heap.size)
    (h : ∀ v' w', OwnB w' base v' (L ++ [y]) → w.grownBy w' v.ownBlock → K (a.put o.dst v') w') : o.wp Try.prog a w K Q := by
  obtain ⟨i0, hi0, hz0, hz1, hz2⟩ := info_parts info_u8
  refine wp_append_own w s x 30 ho base 5 i0 _ 1 1 Try.underlying30 hi0 hz0 hz1 hz2 rfl (by decide) v L.length (L.map bv) hs hown ⟨g, 0, none⟩ 1 1 [bv y] hx rfl ?_ ?_ ?_ ?_ hbase ?_
  · intro j u hu
    match j, hu with
    | 0, hu => simp at hu; subst hu; exact hc
    | j + 1, hu => simp at hu
  · intro u hu; simp at hu; subst hu; rfl
  · simp only [maxLen]; omega
  · omega
  · intro v' w' h1 h2 _
    exact h v' w' (by unfold OwnB; rw [List.length_append, List.map_append]; exact h1) h2
theorem wpList_append_byte (hgd : o.guard = none) (s x : Operand)
    (ho : o.op = .call { callee := .builtin .append, args := #[s, x], argTypes := #[30, 30] })
    (base : Nat) (v : Value) (L : List UInt8) (hs : a.eval s = v) (hown : OwnB w base v L) (g : Nat) (y : UInt8) (hx : a.eval x = .slice (some ⟨g, 0, none⟩) 1 1)
    (hc : w.cell? ⟨g, 0, none⟩ = some (bv y)) (hl : L.length ≤ 140737488355000) (hbase : base ≤ w.heap.size)
    (h : ∀ v' w', OwnB w' base v' (L ++ [y]) → w.grownBy w' v.ownBlock → wpList Try.prog ops Q rest (a.put o.dst v') w') : wpList Try.prog ops Q (o :: rest) a w :=
  wpList_plain hgd fun _ hK => wp_append_byte s x ho base v L hs hown g y hx hc hl hbase fun v' w' h1 h2 => hK _ _ (h v' w' h1 h2)
theorem step_append_byte {K : Act → World → Prop} {E : Prop} (hgd : o.guard = none) (s x : Operand)
    (ho : o.op = .call { callee := .builtin .append, args := #[s, x], argTypes := #[30, 30] })
    (base : Nat) (v : Value) (L : List UInt8) (hs : a.eval s = v) (hown : OwnB w base v L) (g : Nat) (y : UInt8) (hx : a.eval x = .slice (some ⟨g, 0, none⟩) 1 1)
    (hc : w.cell? ⟨g, 0, none⟩ = some (bv y)) (hl : L.length ≤ 140737488355000) (hbase : base ≤ w.heap.size)
    (h : ∀ v' w', OwnB w' base v' (L ++ [y]) → w.grownBy w' v.ownBlock → K (a.put o.dst v') w') : if Region.wanted o (yielded ops a.tmps) = true then Oper.wp Try.prog o a w K Q else E :=
  step_of_wp hgd (wp_append_byte s x ho base v L hs hown g y hx hc hl hbase h)

theorem run_append_nil_src (base : Nat) (ty : TypeId) (v : Value) (L : List UInt8) (hown : OwnB w base v L) (c : Nat) :
    (Builtin.append_ #[30, 30] ty #[v, .slice none 0 c]).run Try.prog w = .ok v w := by
  obtain ⟨i0, hi0, _⟩ := info_parts info_u8
  rcases hown.2 with ⟨rfl, _⟩ | ⟨g, cap, cur, rfl, _, _, hnc, _⟩
  · simp [Builtin.append_, run_underlying Try.underlying30, sizeOf, typeInfo, hi0, Builtin.lenOf, Builtin.firstCells]
  · simp [Builtin.append_, run_underlying Try.underlying30, sizeOf, typeInfo, hi0, Builtin.lenOf, Builtin.firstCells, hnc, storeCells]

/-- append of what some slice holds. -/
theorem wp_append_bytes {K : Act → World → Prop} (s x : Operand)
    (ho : o.op = .call { callee := .builtin .append, args := #[s, x], argTypes := #[30, 30] })
    (base : Nat) (v v2 : Value) (L M : List UInt8) (hs : a.eval s = v) (hown : OwnB w base v L) (hx : a.eval x = v2)
    (hM : Bs w v2 M) (hl : L.length + M.length ≤ 140737488355328) (hbase : base ≤ w.heap.size)
    (h : ∀ v' w', OwnB w' base v' (L ++ M) → w.grownBy w' v.ownBlock → K (a.put o.dst v') w') : o.wp Try.prog a w K Q := by
  obtain ⟨i0, hi0, hz0, hz1, hz2⟩ := info_parts info_u8
  obtain ⟨A, c, rfl, _, hb⟩ := hM
  rcases A with _ | ad
  · have hM : M = [] := by
      rcases M with _ | ⟨y, M⟩
      · rfl
      · obtain ⟨g, off, h1, _⟩ := hb 0 (by simp); cases h1
    subst hM
    unfold Oper.wp execOp
    simp only [ho, resolve, invoke, builtin, Sem.run_bind, Sem.run_pure, Result.andThen_ok, List.map_toArray, List.map_cons, List.map_nil, hs, hx, List.length_nil, run_append_nil_src base o.type v L hown c]
    have hv : (v : Value) = v := rfl
    have := h v w (by rw [List.append_nil]; exact hown) (World.grownBy.refl w _)
    exact this
  · refine wp_append_own w s x 30 ho base 5 i0 _ 1 1 Try.underlying30 hi0 hz0 hz1 hz2 rfl (by decide) v L.length (L.map bv) hs hown ad M.length c (M.map bv) hx (by simp) ?_ (bv_one M) (by simp only [maxLen]; omega) (by omega) hbase ?_
    · intro j u hu
      simp only [List.getElem?_map, Option.map_eq_some_iff] at hu
      obtain ⟨y, hy, rfl⟩ := hu
      obtain ⟨hj, rfl⟩ := List.getElem?_eq_some_iff.1 hy
      obtain ⟨g, off, h1, h2⟩ := hb j hj
      have h3 : ad = ⟨g, off, none⟩ := Option.some.inj h1
      rw [h3, Addr.add_lit]
      exact h2
    · intro v' w' h1 h2 _
      exact h v' w' (by unfold OwnB; rw [List.length_append, List.map_append]; exact h1) h2
theorem wpList_append_bytes (hgd : o.guard = none) (s x : Operand)
    (ho : o.op = .call { callee := .builtin .append, args := #[s, x], argTypes := #[30, 30] })
    (base : Nat) (v v2 : Value) (L M : List UInt8) (hs : a.eval s = v) (hown : OwnB w base v L) (hx : a.eval x = v2)
    (hM : Bs w v2 M) (hl : L.length + M.length ≤ 140737488355328) (hbase : base ≤ w.heap.size)
    (h : ∀ v' w', OwnB w' base v' (L ++ M) → w.grownBy w' v.ownBlock → wpList Try.prog ops Q rest (a.put o.dst v') w') : wpList Try.prog ops Q (o :: rest) a w :=
  wpList_plain hgd fun _ hK => wp_append_bytes s x ho base v v2 L M hs hown hx hM hl hbase fun v' w' h1 h2 => hK _ _ (h v' w' h1 h2)
theorem step_append_bytes {K : Act → World → Prop} {E : Prop} (hgd : o.guard = none) (s x : Operand)
    (ho : o.op = .call { callee := .builtin .append, args := #[s, x], argTypes := #[30, 30] })
    (base : Nat) (v v2 : Value) (L M : List UInt8) (hs : a.eval s = v) (hown : OwnB w base v L) (hx : a.eval x = v2)
    (hM : Bs w v2 M) (hl : L.length + M.length ≤ 140737488355328) (hbase : base ≤ w.heap.size)
    (h : ∀ v' w', OwnB w' base v' (L ++ M) → w.grownBy w' v.ownBlock → K (a.put o.dst v') w') : if Region.wanted o (yielded ops a.tmps) = true then Oper.wp Try.prog o a w K Q else E :=
  step_of_wp hgd (wp_append_bytes s x ho base v v2 L M hs hown hx hM hl hbase h)
end

end Go.Proofs.Ytfgglffjigolhaa
