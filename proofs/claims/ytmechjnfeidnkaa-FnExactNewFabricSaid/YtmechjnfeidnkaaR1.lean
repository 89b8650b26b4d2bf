/- Copying into one's own row of numbers. No condition. -/
import Derived.Test.YtmechjnfeidnkaaA3
set_option linter.unusedVariables false
set_option linter.unnecessarySimpa false
set_option linter.unusedSimpArgs false
namespace Go.Proofs.Ytmechjnfeidnkaa.V
open Go Go.RowKit
section
variable {P : Program}
def ints (ys : List Int) : List Value := ys.map fun y => .int .i64 y
theorem ints_len (ys : List Int) : (ints ys).length = ys.length := by simp [ints]
theorem run_copyInts {w : World} {Z : Nat → Prop} {t e : TypeId} {ti : TypeInfo} {xs ys : List Int} {v src : Value} {B : Nat → Prop} {i ls : Nat} {A : Option Addr} {c : Nat} {ats : Array TypeId} {ty : TypeId} (hu : P.underlying t = some (.slice e)) (ha : ats[0]? = some t) (i1 : P.info? e = some ti) (i2 : ti.size = 1)
    (hR : Rep w Z (.sl e (.int .i64)) .own xs [v] B) (hv : v = .slice A xs.length c) (hi : i + ys.length ≤ xs.length) (hk : 1 ≤ ys.length) (hm : Nat.min ls (xs.length - i) = ys.length)
    (h1 : (Builtin.lenOf src).run P w = .ok ls w) (h2 : (Builtin.firstCells 1 ys.length src).run P w = .ok (ints ys).toArray w) :
    ∃ w', (Builtin.copy_ ats ty #[sliced A i xs.length c 1, src]).run P w = .ok (goInt ys.length) w' ∧ ExtF w w' B ∧ w'.heap.size = w.heap.size ∧ Rep w' Z (.sl e (.int .i64)) .own (xs.take i ++ ys ++ xs.drop (i + ys.length)) [v] B := by
  have hR : OwnR w e 1 (fun x c B' => Rep w Z (.int .i64) .own x c B') 0 xs [v] B := hR
  rcases hR with ⟨A', _, rfl⟩ | ⟨g, cap, cur, rows, Bs, hA, q2, q3, q4, q5, q6, q7, q8⟩
  · have : ([] : List Int).length = 0 := rfl
    omega
  have hA : v = .slice (some ⟨g, 0, none⟩) xs.length cap := by simpa using hA
  rw [hv] at hA
  injection hA with a1 a2 a3
  subst a1; subst a3
  have hsz : cur.size = c := by omega
  let cs0 : List Value := ((cur.toList.drop i).take ys.length)
  have hcs0 : cs0.length = ys.length := by simp only [cs0, List.length_take, List.length_drop, Array.length_toList]; omega
  have hAt : At w (some ⟨g, i, none⟩) cs0 := by
    intro A' hA' j hj
    obtain rfl := Option.some.inj hA'
    rw [cell_at rfl q2 j]
    simp only [cs0]
    rw [List.getElem?_take_of_lt (by rw [hcs0] at hj; exact hj), List.getElem?_drop]
    simp
  obtain ⟨w', r1, r2, r3, r4, r5, r6, r7⟩ := run_storeAt (P := P) (n := ints ys) hAt (by rw [hcs0, ints_len]) (by rw [hcs0]; exact hk) q2 (fun u hu => by
    obtain ⟨y, _, rfl⟩ := List.mem_map.1 hu
    rfl)
  have hc' := r2.here _ _ _ q2
  refine ⟨w', ?_, ⟨r5, r6, r7, by omega, fun b hb hn => r2.other b (fun e => hn (by rw [e]; exact q6))⟩, r4, ?_⟩
  · have hc9 : ¬ c = i := by omega
    have hsl : sliced (some ⟨g, 0, none⟩) i xs.length c 1 = .slice (some ⟨g, i, none⟩) (xs.length - i) (c - i) := by
      have ha : (⟨g, 0, none⟩ : Addr).add (i * 1) = ⟨g, i, none⟩ := by unfold Addr.add; split <;> simp_all
      unfold sliced
      rw [if_neg hc9, Option.map_some, ha]
    have hz : (sizeOf e).run P w = .ok 1 w := by rw [run_size i1, i2]
    rw [hsl]
    simp [Builtin.copy_, ha, run_underlying hu, h1, hm, hz, h2, r1]
  · have hlen : (xs.take i ++ ys ++ xs.drop (i + ys.length)).length = xs.length := by simp only [List.length_append, List.length_take, List.length_drop]; omega
    show OwnR w' e 1 (fun x c B' => Rep w' Z (.int .i64) .own x c B') 0 (xs.take i ++ ys ++ xs.drop (i + ys.length)) [v] B
    refine .inr ⟨g, c, wrArr cur i (ints ys), fun j => [.int .i64 ((xs.take i ++ ys ++ xs.drop (i + ys.length)).getD j 0)], fun _ _ => False, by rw [hv, hlen], hc', by rw [hlen]; exact q3, q4, by rw [wrArr_size]; exact q5, q6, fun j hj => ⟨rfl, fun k hk2 => ?_, fun b hb => hb.elim, rfl⟩, fun _ _ _ _ _ _ h => h.elim⟩
    rw [hlen] at hj
    obtain rfl : k = 0 := by omega
    rw [Nat.mul_one, Nat.add_zero]
    have hold : ∀ m, m < xs.length → cur[m]? = some (.int .i64 (xs.getD m 0)) := fun m hm => by
      obtain ⟨p1, p2, p3, p4⟩ := q7 m hm
      have p4 : rows m = [.int .i64 (xs.getD m 0)] := p4
      have := p2 0 (by omega)
      rw [p4] at this
      simpa using this
    show (wrArr cur i (ints ys))[j]? = some (.int .i64 _)
    rw [List.append_assoc, List.getD_eq_getElem?_getD]
    rcases Nat.lt_or_ge j i with h | h
    · rw [wrArr_out _ _ _ _ (.inl h), hold j hj, List.getElem?_append_left (by simp; omega), List.getElem?_take_of_lt h, ← List.getD_eq_getElem?_getD]
    · rcases Nat.lt_or_ge j (i + ys.length) with h3 | h3
      · obtain ⟨d, rfl⟩ : ∃ d, j = i + d := ⟨j - i, by omega⟩
        rw [wrArr_in _ _ _ _ (by rw [ints_len]; omega) (by rw [ints_len]; omega), List.getElem?_append_right (by simp; omega), List.getElem?_append_left (by simp; omega)]
        have e1 : i + d - (xs.take i).length = d := by simp; omega
        rw [e1]
        have hd : d < ys.length := by omega
        simp [ints, hd]
      · rw [wrArr_out _ _ _ _ (.inr (by rw [ints_len]; exact h3)), hold j hj, List.getElem?_append_right (by simp; omega), List.getElem?_append_right (by simp; omega), List.getElem?_drop]
        have e1 : i + ys.length + (j - (xs.take i).length - ys.length) = j := by simp; omega
        rw [e1, ← List.getD_eq_getElem?_getD]
theorem run_loadInts {w : World} {ad : Addr} {ys : List Int} (h : ∀ j, j < ys.length → w.cell? (ad.add j) = some (.int .i64 (ys.getD j 0))) : (loadCells ad ys.length).run P w = .ok (ints ys).toArray w := by
  have := run_loadCells_list (P := P) w ad (ints ys) (fun j v hv => by
    have hj : j < ys.length := by
      have := (List.getElem?_eq_some_iff.1 hv).1
      rwa [ints_len] at this
    rw [h j hj, ← hv]
    simp [ints, hj])
  rw [ints_len] at this
  exact this
/-- a row of frozen numbers, its head read -/
theorem run_headFz {w : World} {Z : Nat → Prop} {e : TypeId} {ys : List Int} {v : Value} {k : Nat} (hk : 1 ≤ k) (hkl : k ≤ ys.length) (h : Rep w Z (.sl e (.int .i64)) .fz ys [v] (fun _ => False)) : (Builtin.lenOf v).run P w = .ok ys.length w ∧ (Builtin.firstCells 1 k v).run P w = .ok (ints (ys.take k)).toArray w := by
  obtain ⟨A, c, h1, h2, h3, h4⟩ := (h : FzR w Z 1 (fun x c => Rep w Z (.int .i64) .fz x c (fun _ => False)) 0 ys [v])
  obtain ⟨ad, rfl, e2, e3⟩ := h4 (by omega)
  obtain rfl : v = .slice (some ad) ys.length c := by simpa using h1
  have hl : (ys.take k).length = k := by simp; omega
  refine ⟨by simp [Builtin.lenOf], ?_⟩
  have := run_loadInts (P := P) (w := w) (ad := ad) (ys := ys.take k) (fun j hj => by
    rw [hl] at hj
    obtain ⟨c', q1, q2, q3⟩ := e3 j (by omega)
    have q3 : c' = [.int .i64 (ys.getD j 0)] := q3
    have q2 : w.cell? (ad.add (j * 1 + 0)) = c'[0]? := q2 0 (Nat.lt_succ_self 0)
    rw [q3, Nat.mul_one, Nat.add_zero] at q2
    rw [q2, List.getD_eq_getElem?_getD, List.getD_eq_getElem?_getD, List.getElem?_take_of_lt hj]
    rfl)
  rw [hl] at this
  simp [Builtin.firstCells, this]
/-- a row of one's own, its head read -/
theorem run_headOwn {w : World} {Z : Nat → Prop} {e : TypeId} {xs : List Int} {v : Value} {B : Nat → Prop} {i k : Nat} {A : Option Addr} {c : Nat} (hk : 1 ≤ k) (hki : k ≤ i) (hi : i < xs.length) (h : Rep w Z (.sl e (.int .i64)) .own xs [v] B) (hv : v = .slice A xs.length c) : (Builtin.lenOf (sliced A 0 i c 1)).run P w = .ok i w ∧ (Builtin.firstCells 1 k (sliced A 0 i c 1)).run P w = .ok (ints (xs.take k)).toArray w := by
  have h : OwnR w e 1 (fun x c B' => Rep w Z (.int .i64) .own x c B') 0 xs [v] B := h
  rcases h with ⟨A', _, rfl⟩ | ⟨g, cap, cur, rows, Bs, hA, q2, q3, q4, q5, q6, q7, q8⟩
  · have : ([] : List Int).length = 0 := rfl
    omega
  have hA : v = .slice (some ⟨g, 0, none⟩) xs.length cap := by simpa using hA
  rw [hv] at hA
  injection hA with a1 a2 a3
  subst a1; subst a3
  have hsl : sliced (some ⟨g, 0, none⟩) 0 i c 1 = .slice (some ⟨g, 0, none⟩) i c := by
    unfold sliced
    rw [if_neg (by omega)]
    simp [Addr.add]
  have hl : (xs.take k).length = k := by simp; omega
  rw [hsl]
  refine ⟨by simp [Builtin.lenOf], ?_⟩
  have := run_loadInts (P := P) (w := w) (ad := ⟨g, 0, none⟩) (ys := xs.take k) (fun j hj => by
    rw [hl] at hj
    obtain ⟨p1, p2, p3, p4⟩ := q7 j (by omega)
    have p4 : rows j = [.int .i64 (xs.getD j 0)] := p4
    have p2 := p2 0 (by omega)
    rw [p4, Nat.mul_one, Nat.add_zero] at p2
    rw [cell_at rfl q2 j]
    show cur[0 + j]? = _
    rw [Nat.zero_add, p2, List.getD_eq_getElem?_getD, List.getD_eq_getElem?_getD, List.getElem?_take_of_lt hj]
    rfl)
  rw [hl] at this
  simp [Builtin.firstCells, this]
theorem own_whole {w : World} {Z : Nat → Prop} {e : TypeId} {xs : List Int} {v : Value} {B : Nat → Prop} {A : Option Addr} {c : Nat} (h0 : 0 < xs.length) (h : Rep w Z (.sl e (.int .i64)) .own xs [v] B) (hv : v = .slice A xs.length c) : sliced A 0 xs.length c 1 = .slice A xs.length c := by
  have h : OwnR w e 1 (fun x c B' => Rep w Z (.int .i64) .own x c B') 0 xs [v] B := h
  rcases h with ⟨A', _, rfl⟩ | ⟨g, cap, cur, rows, Bs, hA, q2, q3, q4, q5, q6, q7, q8⟩
  · have : ([] : List Int).length = 0 := rfl
    omega
  have hA : v = .slice (some ⟨g, 0, none⟩) xs.length cap := by simpa using hA
  rw [hv] at hA
  injection hA with a1 a2 a3
  subst a1; subst a3
  unfold sliced
  rw [if_neg (by omega)]
  simp [Addr.add]
end
end Go.Proofs.Ytmechjnfeidnkaa.V
