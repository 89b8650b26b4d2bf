/- Rows: append, make. No condition. -/
import Derived.Test.YteeklekfafedcaaV10
import Derived.Laws.OwnMore
import Derived.Laws.Append
set_option linter.unusedVariables false
namespace Go.Proofs.Yteeklekfafedcaa.V
open Go Go.RowKit

/-- a slice whose elements are read -/
def Src (w : World) (Z : Nat → Prop) (s : Sh) (f : Fl) (ys : List s.ty) (v : Value) (Bs : Nat → Nat → Prop) : Prop :=
  ∃ X c, v = .slice X ys.length c ∧ (0 < ys.length → ∃ ad : Addr, X = some ad ∧ ∀ i, i < ys.length → ∃ c' : List Value, c'.length = s.size ∧ (∀ j, j < s.size → w.cell? (ad.add (i * s.size + j)) = c'[j]?) ∧ Rep w Z s f (ys.getD i s.zero) c' (Bs i))

theorem heap_cell {w w' : World} (h : w'.heap = w.heap) (A : Addr) : w'.cell? A = w.cell? A := World.cell?_of_block (by rw [h])

theorem Src.news {P : Program} {w : World} {Z : Nat → Prop} {s : Sh} {f : Fl} {ys : List s.ty} {v : Value} {Bs : Nat → Nat → Prop} (h : Src w Z s f ys v Bs) (hp : 0 < s.size) :
    ∃ X c, ∃ news : List Value, v = .slice X ys.length c ∧ news.length = ys.length * s.size ∧ (∀ u ∈ news, u.oneCell' = true) ∧ (∀ w', w'.heap = w.heap → (Builtin.firstCells s.size ys.length v).run P w' = .ok news.toArray w') ∧
      ∀ i, i < ys.length → ∃ c' : List Value, c'.length = s.size ∧ (∀ j, j < s.size → news[i * s.size + j]? = c'[j]?) ∧ Rep w Z s f (ys.getD i s.zero) c' (Bs i) := by
  obtain ⟨X, c, rfl, h2⟩ := h
  rcases Nat.eq_zero_or_pos ys.length with h0 | h0
  · refine ⟨X, c, [], rfl, by simp [h0], fun u hu => by simp at hu, fun w' hw => ?_, fun i hi => by omega⟩
    rw [h0]
    cases X with
    | none => exact run_firstCells_none (P := P) w' _ _ _ _
    | some A => exact run_firstCells_some (P := P) w' s.size 0 A 0 c [] (by simp) (fun j u hj => by simp at hj)
  · obtain ⟨ad, rfl, h3⟩ := h2 h0
    have key : ∀ k, k < ys.length * s.size → ∃ u, w.cell? (ad.add k) = some u ∧ u.oneCell' = true := by
      intro k hk
      have hi : k / s.size < ys.length := by rw [Nat.div_lt_iff_lt_mul hp]; exact hk
      have hj : k % s.size < s.size := Nat.mod_lt _ hp
      obtain ⟨c', q1, q2, q3⟩ := h3 _ hi
      have := q2 _ hj
      rw [show k / s.size * s.size + k % s.size = k by rw [Nat.mul_comm]; exact Nat.div_add_mod k s.size] at this
      rw [this, List.getElem?_eq_getElem (by omega)]
      exact ⟨_, rfl, q3.one _ (List.getElem_mem _)⟩
    have hcell : ∀ k, k < ys.length * s.size → (rowCells w ad (ys.length * s.size))[k]? = w.cell? (ad.add k) := by
      intro k hk
      obtain ⟨u, hu, _⟩ := key k hk
      simp [rowCells, hk, hu]
    have hlen : (rowCells w ad (ys.length * s.size)).length = ys.length * s.size := by simp [rowCells]
    refine ⟨some ad, c, rowCells w ad (ys.length * s.size), rfl, hlen, fun u hu => ?_, fun w' hw => ?_, fun i hi => ?_⟩
    · obtain ⟨k, hk, e⟩ := List.mem_iff_getElem?.1 hu |>.imp fun k e => (⟨(List.getElem?_eq_some_iff.1 e).1, e⟩ : k < (rowCells w ad (ys.length * s.size)).length ∧ _)
      rw [hlen] at hk
      rw [hcell k hk] at e
      obtain ⟨u', e1, e2⟩ := key k hk
      rw [e1] at e
      obtain rfl := Option.some.inj e
      exact e2
    · refine run_firstCells_some (P := P) w' s.size ys.length ad ys.length c _ hlen (fun j u hj => ?_)
      have hk : j < ys.length * s.size := by rw [← hlen]; exact (List.getElem?_eq_some_iff.1 hj).1
      rw [hcell j hk] at hj
      rw [heap_cell hw]; exact hj
    · obtain ⟨c', q1, q2, q3⟩ := h3 i hi
      refine ⟨c', q1, fun j hj => ?_, q3⟩
      rw [hcell _ (Nat.lt_of_lt_of_le (Nat.add_lt_add_left hj _) (by rw [← Nat.succ_mul]; exact Nat.mul_le_mul_right _ hi))]
      exact q2 j hj

theorem getD_app {α : Type} (xs ys : List α) (i : Nat) (z : α) : (xs ++ ys).getD i z = if i < xs.length then xs.getD i z else ys.getD (i - xs.length) z := by
  simp only [List.getD_eq_getElem?_getD]
  split
  · rename_i h; rw [List.getElem?_append_left h]
  · rename_i h; rw [List.getElem?_append_right (by omega)]

/-- a row in two parts -/
theorem own_join {w : World} {Z : Nat → Prop} {e : TypeId} {s : Sh} {f : Fl} {xs ys : List s.ty} {g cap : Nat} {cur : Array Value} {rows1 rows2 : Nat → List Value} {Bs1 Bs2 : Nat → Nat → Prop} {B : Nat → Prop}
    (hg : w.heap[g]? = some (.cells cur e (0, 0))) (hle : xs.length + ys.length ≤ cap) (hcm : cap ≤ maxLen) (hcs : cur.size = cap * s.size) (hB : B g)
    (h1 : ∀ i, i < xs.length → (rows1 i).length = s.size ∧ (∀ j, j < s.size → cur[i * s.size + j]? = (rows1 i)[j]?) ∧ (∀ b, Bs1 i b → B b ∧ b ≠ g) ∧ Rep w Z s f (xs.getD i s.zero) (rows1 i) (Bs1 i))
    (h2 : ∀ i, i < ys.length → (rows2 i).length = s.size ∧ (∀ j, j < s.size → cur[(xs.length + i) * s.size + j]? = (rows2 i)[j]?) ∧ (∀ b, Bs2 i b → B b ∧ b ≠ g) ∧ Rep w Z s f (ys.getD i s.zero) (rows2 i) (Bs2 i))
    (d1 : ∀ i j b, i < xs.length → j < xs.length → i ≠ j → Bs1 i b → Bs1 j b → False) (d2 : ∀ i j b, i < ys.length → j < ys.length → i ≠ j → Bs2 i b → Bs2 j b → False) (d12 : ∀ i j b, i < xs.length → j < ys.length → Bs1 i b → Bs2 j b → False) :
    OwnR w e s.size (fun x c B' => Rep w Z s f x c B') s.zero (xs ++ ys) [.slice (some ⟨g, 0, none⟩) (xs.length + ys.length) cap] B := by
  refine .inr ⟨g, cap, cur, fun i => if i < xs.length then rows1 i else rows2 (i - xs.length), fun i => if i < xs.length then Bs1 i else Bs2 (i - xs.length), by simp, hg, by simpa using hle, hcm, hcs, hB, fun i hi => ?_, fun i j b hi hj hij hb1 hb2 => ?_⟩
  · rw [List.length_append] at hi
    rw [getD_app]
    by_cases hlt : i < xs.length
    · simp only [hlt, if_true]
      exact h1 i hlt
    · simp only [hlt, if_false]
      obtain ⟨q1, q2, q3, q4⟩ := h2 (i - xs.length) (by omega)
      refine ⟨q1, fun j hj => ?_, q3, q4⟩
      have := q2 j hj
      rwa [show xs.length + (i - xs.length) = i by omega] at this
  · rw [List.length_append] at hi hj
    by_cases h1 : i < xs.length <;> by_cases h2 : j < xs.length <;> simp only [h1, h2, if_true, if_false] at hb1 hb2
    · exact d1 i j b h1 h2 hij hb1 hb2
    · exact d12 i (j - xs.length) b h1 (by omega) hb1 hb2
    · exact d12 j (i - xs.length) b h2 (by omega) hb2 hb1
    · exact d2 (i - xs.length) (j - xs.length) b (by omega) (by omega) (by omega) hb1 hb2

section
variable {P : Program}

theorem run_append_grown (w : World) (t ty e : TypeId) (i : TypeInfo) (z : Value) (ht : P.underlying t = some (.slice e)) (hi : P.info? e = some i) (hz : i.zero = some z)
    (A : Option Addr) (sLen sCap : Nat) (olds : List Value) (hfo : (Builtin.firstCells i.size sLen (.slice A sLen sCap)).run P w.drew = .ok olds.toArray w.drew)
    (X : Option Addr) (n c : Nat) (news : List Value) (hf : (Builtin.firstCells i.size n (.slice X n c)).run P w.drew = .ok news.toArray w.drew)
    (hg : sCap < sLen + n) (h63 : ((sLen + n : Nat) : Int) ≤ 9223372036854775807) (hfit : Builtin.nextslicecap (sLen + n) sCap * i.bytes ≤ 281474976710656) :
    (Builtin.append_ #[t, t] ty #[.slice A sLen sCap, .slice X n c]).run P w =
      .ok (.slice (some ⟨w.heap.size, 0, none⟩) (sLen + n) (grownCap w (sLen + n) sCap e))
        (w.drew.alloc (.cells (olds.toArray ++ news.toArray ++ Builtin.zeroCells z.cells (grownCap w (sLen + n) sCap e - (sLen + n))) e)) := by
  have hn : ¬ (sLen + n ≤ sCap) := by omega
  have h63' : ¬ (9223372036854775807 < ((sLen : Int) + (n : Int))) := by omega
  have h48' : ¬ (281474976710656 < Builtin.nextslicecap (sLen + n) sCap * i.bytes) := by omega
  simp [Builtin.append_, run_underlying ht, sizeOf, typeInfo, zeroValue, hi, hz, Builtin.lenOf, hn, h63', h48', Question.forced, hf, hfo, newRow, grownCap]
  congr 2
  apply Array.ext'
  simp [List.append_assoc]

theorem run_append_roomy (w : World) (t ty e : TypeId) (i : TypeInfo) (ht : P.underlying t = some (.slice e)) (hi : P.info? e = some i)
    (g sLen sCap : Nat) (cur : Array Value) (hg : w.heap[g]? = some (.cells cur e (0, 0)))
    (X : Option Addr) (n c : Nat) (news : List Value) (hl : news.length = n * i.size) (hf : (Builtin.firstCells i.size n (.slice X n c)).run P w = .ok news.toArray w) (h1 : ∀ u ∈ news, u.oneCell' = true)
    (hroom : sLen + n ≤ sCap) (hfit : sLen * i.size + news.length ≤ cur.size) :
    (Builtin.append_ #[t, t] ty #[.slice (some ⟨g, 0, none⟩) sLen sCap, .slice X n c]).run P w =
      .ok (.slice (some ⟨g, 0, none⟩) (sLen + n) sCap) (w.setRow g (wrArr cur (sLen * i.size) news)) := by
  have hst := run_storeCells_at P g (sLen * i.size) e news 0 cur w hg (by simpa using hfit) h1
  simp only [Nat.add_zero] at hst
  rw [wrArr_list _ _ _ hfit]
  simp [Builtin.append_, run_underlying ht, sizeOf, typeInfo, hi, Builtin.lenOf, hroom, hf, Addr.add_lit, hst]

theorem run_append_empty (w : World) (t ty e : TypeId) (i : TypeInfo) (ht : P.underlying t = some (.slice e)) (hi : P.info? e = some i) (A X : Option Addr) (c : Nat)
    (hf : (Builtin.firstCells i.size 0 (.slice X 0 c)).run P w = .ok #[] w) :
    (Builtin.append_ #[t, t] ty #[.slice A 0 0, .slice X 0 c]).run P w = .ok (.slice A 0 0) w := by
  cases A <;> simp [Builtin.append_, run_underlying ht, sizeOf, typeInfo, hi, Builtin.lenOf, hf, storeCells]

theorem append_core {w : World} {Z : Nat → Prop} {t ty e : TypeId} {ti : TypeInfo} {z : Value} {s : Sh} {f : Fl} (ht : P.underlying t = some (.slice e)) (hi : P.info? e = some ti) (hz : ti.zero = some z) (hsz : ti.size = s.size) (hzc : z.cells.size = s.size) (hp : 0 < s.size)
    {xs ys : List s.ty} {vx vy : Value} {B1 B2 : Nat → Prop} {Bs2 : Nat → Nat → Prop} (hx : OwnR w e s.size (fun x c B' => Rep w Z s f x c B') s.zero xs [vx] B1) (hy : Src w Z s f ys vy Bs2)
    (hBs : ∀ i b, i < ys.length → Bs2 i b → B2 b) (dj2 : ∀ i j b, i < ys.length → j < ys.length → i ≠ j → Bs2 i b → Bs2 j b → False) (d12 : ∀ b, B1 b → B2 b → False) (hB1 : ∀ b, B1 b → b < w.heap.size ∧ ¬ Z b) (hB2 : ∀ b, B2 b → b < w.heap.size) (hZ : ∀ b, Z b → b < w.heap.size)
    (hl1 : (xs.length + ys.length) * ti.bytes ≤ 140737488355328) (hl2 : xs.length + ys.length ≤ 140737488355328) :
    ∃ v' w', (Builtin.append_ #[t, t] ty #[vx, vy]).run P w = .ok v' w' ∧ OwnR w' e s.size (fun x c B' => Rep w' Z s f x c B') s.zero (xs ++ ys) [v'] (fun b => B1 b ∨ B2 b ∨ (b = w.heap.size ∧ b < w'.heap.size)) ∧
      (w'.os = w.os ∧ w'.tape = w.tape ∧ w'.output = w.output ∧ w.heap.size ≤ w'.heap.size) ∧ ∀ b, b < w.heap.size → ¬ B1 b → w'.heap[b]? = w.heap[b]? := by
  obtain ⟨X, c, news, rfl, n1, n2, n3, n4⟩ := hy.news (P := P) hp
  have n4' : ∃ rows2 : Nat → List Value, ∀ i, i < ys.length → (rows2 i).length = s.size ∧ (∀ j, j < s.size → news[i * s.size + j]? = (rows2 i)[j]?) ∧ Rep w Z s f (ys.getD i s.zero) (rows2 i) (Bs2 i) := by
    refine ⟨fun i => if h : i < ys.length then (n4 i h).choose else [], fun i hi => ?_⟩
    simp only [hi, dif_pos]
    exact (n4 i hi).choose_spec
  obtain ⟨rows2, n5⟩ := n4'
  have hmx : xs.length + ys.length ≤ maxLen := by simp only [maxLen]; omega
  -- the growing arm
  have grown : ∀ (A : Option Addr) (cap : Nat) (olds : List Value), vx = .slice A xs.length cap → olds.length = xs.length * s.size → (Builtin.firstCells ti.size xs.length (.slice A xs.length cap)).run P w.drew = .ok olds.toArray w.drew →
      (∃ (rows1 : Nat → List Value) (Bs1 : Nat → Nat → Prop), (∀ i, i < xs.length → (rows1 i).length = s.size ∧ (∀ j, j < s.size → olds[i * s.size + j]? = (rows1 i)[j]?) ∧ (∀ b, Bs1 i b → B1 b) ∧ Rep w Z s f (xs.getD i s.zero) (rows1 i) (Bs1 i)) ∧
        ∀ i j b, i < xs.length → j < xs.length → i ≠ j → Bs1 i b → Bs1 j b → False) → cap < xs.length + ys.length →
      ∃ v' w', (Builtin.append_ #[t, t] ty #[vx, .slice X ys.length c]).run P w = .ok v' w' ∧ OwnR w' e s.size (fun x c B' => Rep w' Z s f x c B') s.zero (xs ++ ys) [v'] (fun b => B1 b ∨ B2 b ∨ (b = w.heap.size ∧ b < w'.heap.size)) ∧
      (w'.os = w.os ∧ w'.tape = w.tape ∧ w'.output = w.output ∧ w.heap.size ≤ w'.heap.size) ∧ ∀ b, b < w.heap.size → ¬ B1 b → w'.heap[b]? = w.heap[b]? := by
    rintro A cap olds rfl ho1 ho2 ⟨rows1, Bs1, r1, r2⟩ hgt
    have hge := grownCap_ge w (xs.length + ys.length) cap e
    have hcm := grownCap_le_maxLen w (xs.length + ys.length) cap e hmx
    have hrun := run_append_grown (P := P) w t ty e ti z ht hi hz A xs.length cap olds ho2 X ys.length c news (by have := n3 w.drew rfl; rwa [hsz]) hgt (by omega) (growslice_fits hgt hl1)
    refine ⟨_, _, hrun, ?_, ⟨rfl, rfl, rfl, by simp⟩, fun b hb _ => heap_alloc_old w.drew _ b hb⟩
    have hnew := heap_alloc_new w.drew (.cells (olds.toArray ++ news.toArray ++ Builtin.zeroCells z.cells (grownCap w (xs.length + ys.length) cap e - (xs.length + ys.length))) e)
    have hfr : ∀ b, b < w.heap.size → (w.drew.alloc (.cells (olds.toArray ++ news.toArray ++ Builtin.zeroCells z.cells (grownCap w (xs.length + ys.length) cap e - (xs.length + ys.length))) e)).heap[b]? = w.heap[b]? := fun b hb => heap_alloc_old w.drew _ b hb
    refine own_join (rows1 := rows1) (rows2 := rows2) (Bs1 := Bs1) (Bs2 := Bs2) hnew hge hcm ?_ (.inr (.inr ⟨rfl, by simp⟩)) (fun i hi' => ?_) (fun i hi' => ?_) r2 dj2 (fun i j b hi' hj' q1 q2 => d12 b ((r1 i hi').2.2.1 b q1) (hBs j b hj' q2))
    · simp only [Array.size_append, List.size_toArray, size_zeroCells, hzc, ho1, n1, ← Nat.add_mul]
      congr 1
      omega
    · obtain ⟨q1, q2, q3, q4⟩ := r1 i hi'
      refine ⟨q1, fun j hj => ?_, fun b hb => ⟨.inl (q3 b hb), fun e => ?_⟩, q4.frame (fun _ h => h) (fun b hb => hfr b (by rcases hb with hb | hb; exact hZ b hb; exact (hB1 b (q3 b hb)).1))⟩
      · have hlt : i * s.size + j < olds.length := by rw [ho1]; exact Nat.lt_of_lt_of_le (Nat.add_lt_add_left hj _) (by rw [← Nat.succ_mul]; exact Nat.mul_le_mul_right _ hi')
        rw [← q2 j hj]
        rw [Array.getElem?_append_left (by simp; omega), Array.getElem?_append_left (by simpa using hlt)]
        simp
      · have := (hB1 b (q3 b hb)).1
        have e : b = w.heap.size := e
        omega
    · obtain ⟨q1, q2, q4⟩ := n5 i hi'
      refine ⟨q1, fun j hj => ?_, fun b hb => ⟨.inr (.inl (hBs i b hi' hb)), fun e => ?_⟩, q4.frame (fun _ h => h) (fun b hb => hfr b (by rcases hb with hb | hb; exact hZ b hb; exact hB2 b (hBs i b hi' hb)))⟩
      · have hlt : i * s.size + j < news.length := by rw [n1]; exact Nat.lt_of_lt_of_le (Nat.add_lt_add_left hj _) (by rw [← Nat.succ_mul]; exact Nat.mul_le_mul_right _ hi')
        rw [← q2 j hj]
        have e1 : (xs.length + i) * s.size + j = olds.length + (i * s.size + j) := by rw [ho1, Nat.add_mul]; omega
        rw [e1, Array.getElem?_append_left (by simp; omega), Array.getElem?_append_right (by simp)]
        simp
      · have := hB2 b (hBs i b hi' hb)
        have e : b = w.heap.size := e
        omega
  rcases hx with ⟨A, hA, rfl⟩ | ⟨g, cap, cur, rows, Bs, hA, h2, h3, h4, h5, h6, h7, h8⟩
  · have hA : vx = .slice A 0 0 := by simpa using hA
    rcases Nat.eq_zero_or_pos ys.length with h0 | h0
    · obtain rfl := List.eq_nil_of_length_eq_zero h0
      obtain rfl : news = [] := List.eq_nil_of_length_eq_zero (by simpa using n1)
      subst hA
      refine ⟨_, w, run_append_empty (P := P) w t ty e ti ht hi A X c (by rw [hsz]; exact n3 w rfl), .inl ⟨A, rfl, rfl⟩, ⟨rfl, rfl, rfl, Nat.le_refl _⟩, fun _ _ _ => rfl⟩
    · refine grown A 0 [] hA (by simp) ?_ ⟨fun _ => [], fun _ _ => False, fun i hi => by simp at hi, fun i j b hi => by simp at hi⟩ (by simpa using h0)
      cases A with
      | none => exact run_firstCells_none (P := P) _ _ _ _ _
      | some A => exact run_firstCells_some (P := P) _ _ 0 A 0 0 [] (by simp) (fun j u hj => by simp at hj)
  · have hA : vx = .slice (some ⟨g, 0, none⟩) xs.length cap := by simpa using hA
    subst hA
    by_cases hroom : xs.length + ys.length ≤ cap
    · have hfit : xs.length * ti.size + news.length ≤ cur.size := by rw [hsz, n1, h5, ← Nat.add_mul]; exact Nat.mul_le_mul_right _ hroom
      have hrun := run_append_roomy (P := P) w t ty e ti ht hi g xs.length cap cur h2 X ys.length c news (by rw [n1, hsz]) (by rw [hsz]; exact n3 w rfl) n2 hroom hfit
      have hg := hB1 g h6
      have hfr : ∀ b, b ≠ g → (w.setRow g (wrArr cur (xs.length * ti.size) news)).heap[b]? = w.heap[b]? := fun b hb => setRow_other w g b _ hb
      refine ⟨_, _, hrun, ?_, ⟨rfl, rfl, rfl, by simp [World.setRow]⟩, fun b hb hn => hfr b (fun e => hn (e ▸ h6))⟩
      have hnew := setRow_heap w g cur (wrArr cur (xs.length * ti.size) news) e _ h2
      refine own_join (rows1 := rows) (rows2 := rows2) (Bs1 := Bs) (Bs2 := Bs2) hnew hroom h4 (by rw [wrArr_size, h5]) (.inl h6) (fun i hi' => ?_) (fun i hi' => ?_) h8 dj2 (fun i j b hi' hj' q1 q2 => d12 b ((h7 i hi').2.2.1 b q1).1 (hBs j b hj' q2))
      · obtain ⟨q1, q2, q3, q4⟩ := h7 i hi'
        refine ⟨q1, fun j hj => ?_, fun b hb => ⟨.inl (q3 b hb).1, (q3 b hb).2⟩, q4.frame (fun _ h => h) (fun b hb => hfr b (by rcases hb with hb | hb; exact fun e => hg.2 (e ▸ hb); exact (q3 b hb).2))⟩
        rw [← q2 j hj]
        exact wrArr_out _ _ _ _ (.inl (by rw [hsz]; exact Nat.lt_of_lt_of_le (Nat.add_lt_add_left hj _) (by rw [← Nat.succ_mul]; exact Nat.mul_le_mul_right _ hi')))
      · obtain ⟨q1, q2, q4⟩ := n5 i hi'
        have hB := hBs i
        refine ⟨q1, fun j hj => ?_, fun b hb => ⟨.inr (.inl (hB b hi' hb)), fun e => d12 g h6 (e ▸ hB b hi' hb)⟩, q4.frame (fun _ h => h) (fun b hb => hfr b (by rcases hb with hb | hb; exact fun e => hg.2 (e ▸ hb); exact fun e => d12 g h6 (e ▸ hB b hi' hb)))⟩
        have hlt : i * s.size + j < news.length := by rw [n1]; exact Nat.lt_of_lt_of_le (Nat.add_lt_add_left hj _) (by rw [← Nat.succ_mul]; exact Nat.mul_le_mul_right _ hi')
        rw [← q2 j hj, show (xs.length + i) * s.size + j = xs.length * ti.size + (i * s.size + j) by rw [hsz, Nat.add_mul]; omega]
        exact wrArr_in _ _ _ _ hfit hlt
    · -- the old cells are read
      have holds : ∀ k, k < xs.length * s.size → (cur.toList.take (xs.length * s.size))[k]? = cur[k]? := fun k hk => by rw [List.getElem?_take_of_lt hk, Array.getElem?_toList]
      have hle : xs.length * s.size ≤ cur.size := by rw [h5]; exact Nat.mul_le_mul_right _ h3
      have hlo : (cur.toList.take (xs.length * s.size)).length = xs.length * s.size := by simp; omega
      refine grown (some ⟨g, 0, none⟩) cap (cur.toList.take (xs.length * s.size)) rfl hlo ?_ ⟨rows, Bs, fun i hi' => ?_, h8⟩ (by omega)
      · refine run_firstCells_some (P := P) _ _ xs.length _ _ _ _ (by rw [hlo, hsz]) (fun j u hj => ?_)
        have hk : j < xs.length * s.size := by rw [← hlo]; exact (List.getElem?_eq_some_iff.1 hj).1
        rw [holds j hk] at hj
        rw [heap_cell (w := w) (w' := w.drew) rfl, cell_row h2]; exact hj
      · obtain ⟨q1, q2, q3, q4⟩ := h7 i hi'
        refine ⟨q1, fun j hj => ?_, fun b hb => (q3 b hb).1, q4⟩
        rw [holds _ (Nat.lt_of_lt_of_le (Nat.add_lt_add_left hj _) (by rw [← Nat.succ_mul]; exact Nat.mul_le_mul_right _ hi'))]
        exact q2 j hj
end
end Go.Proofs.Yteeklekfafedcaa.V
