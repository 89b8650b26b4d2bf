/- What a write at one place leaves of the other places. No condition. -/
import Derived.Test.YteeklekfafedcaaV2
set_option linter.unusedVariables false
namespace Go.Proofs.Yteeklekfafedcaa.V
open Go

theorem csub_self {w : World} : ∀ (p : Path) {s : Sh} {cs : List Value} {ad : Option Addr} {cs1 : List Value} {ad1 : Option Addr}, sub w s cs ad p = some (cs1, ad1) → csub s cs p cs1 = cs := by
  intro p
  induction p with
  | nil => intro s cs ad cs1 ad1 h; rw [sub_nil] at h; rw [csub_nil]; exact (Prod.mk.inj (Option.some.inj h)).1.symm
  | cons st p ih =>
    intro s cs ad cs1 ad1 h
    cases s with
    | pr a b =>
      cases st with
      | l => simp only [sub] at h; simp only [csub]; rw [ih h, List.take_append_drop]
      | r => simp only [sub] at h; simp only [csub]; rw [ih h, List.take_append_drop]
      | el i => simp [sub] at h
    | sl e s0 => cases st <;> first | rfl | simp [sub] at h
    | unit => simp [sub] at h
    | int _ => simp [sub] at h
    | bool => simp [sub] at h
    | str => simp [sub] at h

theorem sub_frame {w w' : World} {Z : Nat → Prop} : ∀ (p : Path) {s : Sh} {f : Fl} {x : s.ty} {cs : List Value} {ad : Option Addr} {B : Nat → Prop}, Rep w Z s f x cs B → Ok s f x p → (∀ b, B b → w'.heap[b]? = w.heap[b]?) → sub w' s cs ad p = sub w s cs ad p := by
  intro p
  induction p with
  | nil => intro s f x cs ad B _ _ _; rw [sub_nil, sub_nil]
  | cons st p ih =>
    intro s f x cs ad B hR hOk hb
    cases s with
    | pr a b =>
      obtain ⟨c1, c2, B1, B2, rfl, k1, k2, k3, k4, k5⟩ := hR
      cases st with
      | l => simp only [sub]; rw [List.take_left' k4.len]; exact ih k4 hOk (fun b h => hb b (k1 b h))
      | r => simp only [sub]; rw [List.drop_left' k4.len]; exact ih k5 hOk (fun b h => hb b (k2 b h))
      | el i => simp [Ok] at hOk
    | sl e s0 =>
      cases st with
      | el i =>
        obtain ⟨hf, hi, hOk'⟩ := hOk
        have aux : ∀ f0 : Fl, Ok s0 f0 (x.getD i s0.zero) p → OwnR w e s0.size (fun x c B' => Rep w Z s0 f0 x c B') s0.zero x cs B → sub w' (.sl e s0) cs ad (.el i :: p) = sub w (.sl e s0) cs ad (.el i :: p) := by
          intro f0 hO hR
          rcases hR with ⟨A, rfl, rfl⟩ | ⟨g, cap, cur, rows, Bs, rfl, h2, h3, h4, h5, h6, h7, h8⟩
          · simp at hi
          · obtain ⟨q1, q2, q3, q4⟩ := h7 i hi
            simp only [sub]
            rw [rowCells_eq (w := w) q1 (fun j hj => by rw [add_add, cell_row h2, q2 j hj]), rowCells_eq (w := w') q1 (fun j hj => by rw [add_add, cell_row ((hb g h6).trans h2), q2 j hj])]
            exact ih q4 hO (fun b h => hb b (q3 b h).1)
        rcases hf with rfl | rfl | ⟨n0, c0, rfl⟩
        · exact aux _ hOk' hR
        · exact aux _ hOk' hR
        · exact aux _ hOk' hR.1
      | l => simp [Ok] at hOk
      | r => simp [Ok] at hOk
    | unit => simp [Ok] at hOk
    | int _ => simp [Ok] at hOk
    | bool => simp [Ok] at hOk
    | str => simp [Ok] at hOk

theorem pre_refl : ∀ p : Path, Path.pre p p = true
  | [] => rfl
  | a :: p => by simp [Path.pre, pre_refl p]
theorem pre_nil : ∀ q : Path, Path.pre q [] = true → q = []
  | [], _ => rfl
  | a :: q, h => by simp [Path.pre] at h

/-- places that do not lie below the one that is written are places still, of the same shape -/
theorem upd_other {s1 : Sh} {f2 : Fl} {x2 : s1.ty} : ∀ (p q : Path) {s : Sh} {f : Fl} {x : s.ty} {f' : Fl} {x' : s.ty}, upd s1 f2 x2 s f x p = some (f', x') → below p q = false → Ok s f x q →
    ∀ {s3 : Sh} {f3 : Fl} {x3 : s3.ty}, get s f x q = some ⟨s3, f3, x3⟩ → Ok s f' x' q ∧ ∃ f4 x4, get s f' x' q = some ⟨s3, f4, x4⟩ := by
  intro p
  induction p with
  | nil =>
    intro q s f x f' x' hu hb hOk s3 f3 x3 hg
    have hq : q = [] := by
      cases q with
      | nil => rfl
      | cons a q => simp [below, Path.pre] at hb
    subst hq
    have e1 : ∀ (f : Fl) (x : s.ty), get s f x [] = some ⟨s, f, x⟩ := fun f x => by cases s <;> rfl
    rw [e1] at hg
    have := Option.some.inj hg
    simp only [Sigma.mk.injEq] at this
    obtain ⟨rfl, _⟩ := this
    exact ⟨by cases s <;> trivial, f', x', e1 f' x'⟩
  | cons st p ih =>
    intro q s f x f' x' hu hb hOk s3 f3 x3 hg
    cases q with
    | nil =>
      have e1 : ∀ (f : Fl) (x : s.ty), get s f x [] = some ⟨s, f, x⟩ := fun f x => by cases s <;> rfl
      rw [e1] at hg
      have := Option.some.inj hg
      simp only [Sigma.mk.injEq] at this
      obtain ⟨rfl, _⟩ := this
      exact ⟨by cases s <;> trivial, f', x', e1 f' x'⟩
    | cons sq q =>
      have hb' : sq = st → below p q = false := fun e => by
        subst e
        simpa [below, Path.pre] using hb
      cases s with
      | pr a b =>
        cases st with
        | l =>
          simp only [upd] at hu
          cases hq : upd s1 f2 x2 a f.l x.1 p with
          | none => rw [hq] at hu; cases hu
          | some r =>
            rw [hq] at hu
            obtain ⟨rfl, rfl⟩ := Prod.mk.inj (Option.some.inj hu)
            cases sq with
            | l => exact ih q hq (hb' rfl) hOk hg
            | r => exact ⟨hOk, f3, x3, hg⟩
            | el i => simp [Ok] at hOk
        | r =>
          simp only [upd] at hu
          cases hq : upd s1 f2 x2 b f.r x.2 p with
          | none => rw [hq] at hu; cases hu
          | some r =>
            rw [hq] at hu
            obtain ⟨rfl, rfl⟩ := Prod.mk.inj (Option.some.inj hu)
            cases sq with
            | l => exact ⟨hOk, f3, x3, hg⟩
            | r => exact ih q hq (hb' rfl) hOk hg
            | el i => simp [Ok] at hOk
        | el i => simp [upd] at hu
      | sl e s0 =>
        cases sq with
        | el j =>
          obtain ⟨hf, hj, hOk'⟩ := hOk
          cases st with
          | el i =>
            have aux : ∀ (f0 : Fl) (y : s0.ty) (g : Fl), upd s1 f2 x2 s0 f0 (x.getD i s0.zero) p = some (g, y) → (s0.plain = true ∨ g = f0) → Ok s0 f0 (x.getD j s0.zero) q → get s0 f0 (x.getD j s0.zero) q = some ⟨s3, f3, x3⟩ → Ok s0 f0 ((x.set i y).getD j s0.zero) q ∧ ∃ f4 x4, get s0 f0 ((x.set i y).getD j s0.zero) q = some ⟨s3, f4, x4⟩ := by
              intro f0 y g hq hfl hO hG
              by_cases hij : i = j
              · subst hij
                have e : (x.set i y).getD i s0.zero = y := by simp [List.getD_eq_getElem?_getD, hj]
                rw [e]
                have := ih q hq (hb' rfl) hO hG
                rcases hfl with h | h
                · -- no slices inside: flags do not matter
                  have key : ∀ (q : Path) {s : Sh} {fa fb : Fl} {x : s.ty}, s.plain = true → Ok s fa x q → ∀ {s3 : Sh} {f3 : Fl} {x3 : s3.ty}, get s fa x q = some ⟨s3, f3, x3⟩ → Ok s fb x q ∧ ∃ f4 x4, get s fb x q = some ⟨s3, f4, x4⟩ := by
                    intro q
                    induction q with
                    | nil =>
                      intro s fa fb x _ _ s3 f3 x3 hg
                      have e1 : ∀ (f : Fl) (x : s.ty), get s f x [] = some ⟨s, f, x⟩ := fun f x => by cases s <;> rfl
                      rw [e1] at hg
                      have := Option.some.inj hg
                      simp only [Sigma.mk.injEq] at this
                      obtain ⟨rfl, _⟩ := this
                      exact ⟨by cases s <;> trivial, fb, x, e1 fb x⟩
                    | cons a q ih =>
                      intro s fa fb x hp hO s3 f3 x3 hg
                      cases s with
                      | pr u v =>
                        simp only [Sh.plain, Bool.and_eq_true] at hp
                        cases a with
                        | l => exact ih hp.1 hO hg
                        | r => exact ih hp.2 hO hg
                        | el i => simp [Ok] at hO
                      | sl _ _ => simp [Sh.plain] at hp
                      | unit => simp [Ok] at hO
                      | int _ => simp [Ok] at hO
                      | bool => simp [Ok] at hO
                      | str => simp [Ok] at hO
                  obtain ⟨t1, f4, x4, t2⟩ := this
                  exact key q h t1 t2
                · rw [← h]; exact this
              · have e : (x.set i y).getD j s0.zero = x.getD j s0.zero := by rw [List.getD_eq_getElem?_getD, List.getD_eq_getElem?_getD, List.getElem?_set_ne hij]
                rw [e]
                exact ⟨hO, f3, x3, hG⟩
            simp only [upd] at hu
            rcases hf with rfl | rfl | ⟨n0, c0, rfl⟩
            · simp only at hu
              cases hq : upd s1 f2 x2 s0 .own (x.getD i s0.zero) p with
              | none => rw [hq] at hu; cases hu
              | some r =>
                rw [hq] at hu
                simp only at hu
                split at hu
                · rename_i hfl
                  obtain ⟨rfl, rfl⟩ := Prod.mk.inj (Option.some.inj hu)
                  simp only [Bool.or_eq_true, beq_iff_eq] at hfl
                  obtain ⟨t1, t2⟩ := aux .own r.2 r.1 hq hfl hOk' hg
                  exact ⟨⟨.inl rfl, by rw [List.length_set]; exact hj, t1⟩, t2⟩
                · cases hu
            · simp only at hu
              cases hq : upd s1 f2 x2 s0 .fz (x.getD i s0.zero) p with
              | none => rw [hq] at hu; cases hu
              | some r =>
                rw [hq] at hu
                simp only at hu
                split at hu
                · rename_i hfl
                  obtain ⟨rfl, rfl⟩ := Prod.mk.inj (Option.some.inj hu)
                  simp only [Bool.or_eq_true, beq_iff_eq] at hfl
                  obtain ⟨t1, t2⟩ := aux .fz r.2 r.1 hq hfl hOk' hg
                  exact ⟨⟨.inr (.inl rfl), by rw [List.length_set]; exact hj, t1⟩, t2⟩
                · cases hu
            · simp only at hu
              cases hq : upd s1 f2 x2 s0 .own (x.getD i s0.zero) p with
              | none => rw [hq] at hu; cases hu
              | some r =>
                rw [hq] at hu
                simp only at hu
                split at hu
                · rename_i hfl
                  obtain ⟨rfl, rfl⟩ := Prod.mk.inj (Option.some.inj hu)
                  simp only [Bool.or_eq_true, beq_iff_eq] at hfl
                  obtain ⟨t1, t2⟩ := aux .own r.2 r.1 hq hfl hOk' hg
                  exact ⟨⟨.inr (.inr ⟨_, _, rfl⟩), by rw [List.length_set]; exact hj, t1⟩, t2⟩
                · cases hu
          | l => simp [upd] at hu
          | r => simp [upd] at hu
        | l => simp [Ok] at hOk
        | r => simp [Ok] at hOk
      | unit => simp [Ok] at hOk
      | int _ => simp [Ok] at hOk
      | bool => simp [Ok] at hOk
      | str => simp [Ok] at hOk

theorem csub_len {w : World} {n : List Value} : ∀ (p : Path) {s : Sh} {cs : List Value} {ad : Option Addr} {cs1 : List Value} {ad1 : Option Addr}, sub w s cs ad p = some (cs1, ad1) → n.length = cs1.length → (csub s cs p n).length = cs.length := by
  intro p
  induction p with
  | nil => intro s cs ad cs1 ad1 h hn; rw [sub_nil] at h; rw [csub_nil]; obtain ⟨rfl, _⟩ := Prod.mk.inj (Option.some.inj h); exact hn
  | cons st p ih =>
    intro s cs ad cs1 ad1 h hn
    cases s with
    | pr a b =>
      cases st with
      | l => simp only [sub] at h; simp only [csub, List.length_append]; rw [ih h hn, ← List.length_append, List.take_append_drop]
      | r => simp only [sub] at h; simp only [csub, List.length_append]; rw [ih h hn, ← List.length_append, List.take_append_drop]
      | el i => simp [sub] at h
    | sl e s0 => cases st <;> first | rfl | simp [sub] at h
    | unit => simp [sub] at h
    | int _ => simp [sub] at h
    | bool => simp [sub] at h
    | str => simp [sub] at h

/-- behind a write the whole's own cells are those of csub -/
theorem wr_at {w w' : World} {Z : Nat → Prop} : ∀ (p : Path) {s : Sh} {f : Fl} {x : s.ty} {cs : List Value} {ad : Option Addr} {B : Nat → Prop}, Rep w Z s f x cs B → At w ad cs → (∀ A, ad = some A → ¬ B A.block) → Ok s f x p →
    ∀ {s1 : Sh} {f1 : Fl} {x1 : s1.ty} {cs1 : List Value} {ad1 : Option Addr} {n : List Value}, get s f x p = some ⟨s1, f1, x1⟩ → sub w s cs ad p = some (cs1, ad1) → Chg w w' ad1 cs1 n → n.length = cs1.length → At w' ad (csub s cs p n) := by
  intro p s f x cs ad B hR hA hN hOk s1 f1 x1 cs1 ad1 n hg hs hC hn A hAd j hj
  obtain ⟨cs1', ad1', Bp, t1, t2, t3, _⟩ := lens p hR hA hN hOk hg
  rw [t1] at hs
  obtain ⟨rfl, rfl⟩ := Prod.mk.inj (Option.some.inj hs)
  have hlen := csub_len p t1 hn
  have hc := hA A hAd j (by omega)
  rw [List.getElem?_eq_getElem (by omega)] at hc
  have hsp : A.spot = none := At.spot (hAd ▸ hA) (by omega)
  -- what csub holds, cell by cell
  have key : ∀ (p : Path) {s : Sh} {f : Fl} {x : s.ty} {cs : List Value} {ad : Option Addr} {B : Nat → Prop}, Rep w Z s f x cs B → At w ad cs → (∀ A, ad = some A → ¬ B A.block) → Ok s f x p → ∀ {s1 : Sh} {f1 : Fl} {x1 : s1.ty} {cs1 : List Value} {ad1 : Option Addr}, get s f x p = some ⟨s1, f1, x1⟩ → sub w s cs ad p = some (cs1, ad1) → n.length = cs1.length →
      (csub s cs p n = cs ∧ ∀ A, ad = some A → ∀ A1, ad1 = some A1 → A.block ≠ A1.block) ∨ ∃ off, ad1 = ad.map (·.add off) ∧ off + n.length ≤ cs.length ∧ (∀ k, (k < off ∨ off + n.length ≤ k) → (csub s cs p n)[k]? = cs[k]?) ∧ ∀ k, k < n.length → (csub s cs p n)[off + k]? = n[k]? := by
    intro p
    induction p with
    | nil =>
      intro s f x cs ad B _ _ _ _ s1 f1 x1 cs1 ad1 _ hs hn
      rw [sub_nil] at hs
      obtain ⟨rfl, rfl⟩ := Prod.mk.inj (Option.some.inj hs)
      rw [csub_nil]
      exact .inr ⟨0, by cases ad <;> simp [Addr.add], by omega, fun k hk => by rw [List.getElem?_eq_none (by omega), List.getElem?_eq_none (by omega)], fun k hk => by rw [Nat.zero_add]⟩
    | cons st p ih =>
      intro s f x cs ad B hR hA hN hOk s1 f1 x1 cs1 ad1 hg hs hn
      cases s with
      | pr a b =>
        obtain ⟨c1, c2, B1, B2, rfl, k1, k2, k3, k4, k5⟩ := hR
        have hl := k4.len
        cases st with
        | l =>
          have hA1 : At w ad c1 := fun A h j hj => by
            have := hA A h j (by rw [List.length_append]; omega)
            rwa [List.getElem?_append_left hj] at this
          simp only [sub] at hs
          rw [List.take_left' hl] at hs
          have hcl : csub (.pr a b) (c1 ++ c2) (.l :: p) n = csub a c1 p n ++ c2 := by simp only [csub]; rw [List.take_left' hl, List.drop_left' hl]
          have hnl := csub_len p hs hn
          rw [hcl]
          rcases ih k4 hA1 (fun A h hb => hN A h (k1 _ hb)) hOk hg hs hn with ⟨h1, h2⟩ | ⟨off, h1, h2, h3, h4⟩
          · exact .inl ⟨by rw [h1], h2⟩
          · refine .inr ⟨off, h1, by rw [List.length_append]; omega, fun k hk => ?_, fun k hk => ?_⟩
            · by_cases hkl : k < c1.length
              · rw [List.getElem?_append_left (by omega), List.getElem?_append_left hkl]; exact h3 k hk
              · rw [List.getElem?_append_right (by omega), List.getElem?_append_right (by omega), hnl]
            · rw [List.getElem?_append_left (by omega)]; exact h4 k hk
        | r =>
          have hA2 : At w (ad.map (·.add a.size)) c2 := fun A h j hj => by
            obtain ⟨A0, rfl, rfl⟩ := Option.map_eq_some_iff.1 h
            have := hA A0 rfl (c1.length + j) (by rw [List.length_append]; omega)
            rw [List.getElem?_append_right (by omega)] at this
            rw [add_add, ← hl, this]
            congr 1
            omega
          have hN2 : ∀ A, ad.map (·.add a.size) = some A → ¬ B2 A.block := by
            intro A h hb
            obtain ⟨A0, h1, h2⟩ := Option.map_eq_some_iff.1 h
            rw [← h2, add_block] at hb
            exact hN A0 h1 (k2 _ hb)
          simp only [sub] at hs
          rw [List.drop_left' hl] at hs
          have hcl : csub (.pr a b) (c1 ++ c2) (.r :: p) n = c1 ++ csub b c2 p n := by simp only [csub]; rw [List.take_left' hl, List.drop_left' hl]
          have hnl := csub_len p hs hn
          rw [hcl]
          rcases ih k5 hA2 hN2 hOk hg hs hn with ⟨h1, h2⟩ | ⟨off, h1, h2, h3, h4⟩
          · refine .inl ⟨by rw [h1], fun A hA' A1 hA1 => ?_⟩
            have := h2 (A.add a.size) (by rw [hA']; rfl) A1 hA1
            rwa [add_block] at this
          · refine .inr ⟨a.size + off, ?_, by rw [List.length_append]; omega, fun k hk => ?_, fun k hk => ?_⟩
            · rw [h1]
              cases ad with
              | none => rfl
              | some A => simp [add_add]
            · by_cases hkl : k < c1.length
              · rw [List.getElem?_append_left hkl, List.getElem?_append_left hkl]
              · rw [List.getElem?_append_right (by omega), List.getElem?_append_right (by omega)]; exact h3 _ (by omega)
            · rw [List.getElem?_append_right (by omega), show a.size + off + k - c1.length = off + k from by omega]; exact h4 k hk
        | el i => simp [Ok] at hOk
      | sl e s0 =>
        cases st with
        | el i =>
          refine .inl ⟨rfl, fun A hA' A1 hA1 hEq => ?_⟩
          obtain ⟨cs1', ad1', Bp, t1, t2, t3, t4, t5, t6, t7⟩ := lens (.el i :: p) hR hA hN hOk hg
          rw [t1] at hs
          obtain ⟨rfl, rfl⟩ := Prod.mk.inj (Option.some.inj hs)
          obtain ⟨hf, hi, hOk'⟩ := hOk
          have aux : ∀ f0 : Fl, OwnR w e s0.size (fun x c B' => Rep w Z s0 f0 x c B') s0.zero x cs B → Ok s0 f0 (x.getD i s0.zero) p → get s0 f0 (x.getD i s0.zero) p = some ⟨s1, f1, x1⟩ → B A1.block := by
            intro f0 hR hO hG
            obtain ⟨cs1', ad1', B1, g1, g2, g3, _⟩ := lens_row hi (fun {_ _ _ _ _} a1 a2 a3 a4 {_ _ _} a5 => lens p a1 a2 a3 a4 a5) hR hA hN hO hG
            rw [t1] at g1
            obtain ⟨rfl, rfl⟩ := Prod.mk.inj (Option.some.inj g1)
            exact g3.2 A1 hA1
          refine hN A hA' (hEq ▸ ?_)
          rcases hf with rfl | rfl | ⟨n0, c0, rfl⟩
          · exact aux _ hR hOk' hg
          · exact aux _ hR hOk' hg
          · exact aux _ hR.1 hOk' hg
        | l => simp [Ok] at hOk
        | r => simp [Ok] at hOk
      | unit => simp [Ok] at hOk
      | int _ => simp [Ok] at hOk
      | bool => simp [Ok] at hOk
      | str => simp [Ok] at hOk
  rw [hlen] at hj
  rcases hC with ⟨rfl, rfl⟩ | ⟨A', e1, e2, e3, e4⟩
  · rw [csub_self p t1]; exact hA A hAd j hj
  · obtain ⟨_, cur, e, fr, hcu⟩ := cell_some hc
    rw [add_block] at hcu
    rcases key p hR hA hN hOk hg t1 hn with ⟨h1, h2⟩ | ⟨off, h1, h2, h3, h4⟩
    · rw [h1, ← hA A hAd j hj]
      exact World.cell?_of_block (by rw [add_block]; exact e4.other _ (h2 A hAd A' e1))
    · rw [hAd, e1] at h1
      have h6 : A' = A.add off := by simpa using h1
      have h7 := (add_off hsp off).1
      have hbk : A'.block = A.block := by rw [h6, add_block]
      rw [cell_at hsp (show w'.heap[A.block]? = some (.cells (wrArr cur A'.off n) e fr) from by rw [← hbk]; exact e4.here _ _ _ (by rw [hbk]; exact hcu))]
      by_cases hjj : j < off ∨ off + n.length ≤ j
      · rw [wrArr_out _ _ _ _ (by rw [h6, h7]; omega), h3 j hjj, ← hA A hAd j hj, cell_at hsp hcu]
      · have e5 : j = off + (j - off) := by omega
        rw [e5, h4 _ (by omega), ← Nat.add_assoc, ← h7, ← h6]
        refine wrArr_in n cur _ _ ?_ (by omega)
        have h8 := hA A hAd (cs.length - 1) (by omega)
        rw [cell_at hsp hcu, List.getElem?_eq_getElem (by omega)] at h8
        have := (Array.getElem?_eq_some_iff.1 h8).1
        rw [h6, h7]
        omega

/-- where the other places lie behind a write, and what their own cells are -/
theorem lens_q {w w' : World} {Z : Nat → Prop} : ∀ (p q : Path) {s : Sh} {f : Fl} {x : s.ty} {cs : List Value} {ad : Option Addr} {B : Nat → Prop}, Rep w Z s f x cs B → At w ad cs → (∀ A, ad = some A → ¬ B A.block) → Ok s f x p →
    ∀ {s1 : Sh} {f1 : Fl} {x1 : s1.ty} {cs1 : List Value} {ad1 : Option Addr} {n : List Value}, get s f x p = some ⟨s1, f1, x1⟩ → sub w s cs ad p = some (cs1, ad1) → Chg w w' ad1 cs1 n → n.length = cs1.length →
    below p q = false → Ok s f x q → ∀ {s3 : Sh} {f3 : Fl} {x3 : s3.ty} {cs3 : List Value} {ad3 : Option Addr}, get s f x q = some ⟨s3, f3, x3⟩ → sub w s cs ad q = some (cs3, ad3) →
    ∃ cs4, sub w' s (csub s cs p n) ad q = some (cs4, ad3) ∧ (Path.pre p q = false → s3.isSl = true → cs4 = cs3) := by
  intro p
  induction p with
  | nil =>
    intro q s f x cs ad B _ _ _ _ s1 f1 x1 cs1 ad1 n _ hs hC _ hb _ s3 f3 x3 cs3 ad3 _ hs3
    have hq : q = [] := by
      cases q with
      | nil => rfl
      | cons a q => simp [below, Path.pre] at hb
    subst hq
    rw [sub_nil] at hs3
    obtain ⟨rfl, rfl⟩ := Prod.mk.inj (Option.some.inj hs3)
    exact ⟨_, sub_nil _ _ _ _, fun h => by simp [Path.pre] at h⟩
  | cons st p ih =>
    intro q s f x cs ad B hR hA hN hOk s1 f1 x1 cs1 ad1 n hg hs hC hn hb hOq s3 f3 x3 cs3 ad3 hg3 hs3
    cases q with
    | nil =>
      rw [sub_nil] at hs3
      obtain ⟨rfl, rfl⟩ := Prod.mk.inj (Option.some.inj hs3)
      refine ⟨_, sub_nil _ _ _ _, fun _ hsl => ?_⟩
      have e1 : get s f x [] = some ⟨s, f, x⟩ := by cases s <;> rfl
      rw [e1] at hg3
      have := Option.some.inj hg3
      simp only [Sigma.mk.injEq] at this
      obtain ⟨rfl, _⟩ := this
      cases s with
      | sl e s0 => cases st <;> rfl
      | unit => simp [Sh.isSl] at hsl
      | int _ => simp [Sh.isSl] at hsl
      | bool => simp [Sh.isSl] at hsl
      | str => simp [Sh.isSl] at hsl
      | pr a b => simp [Sh.isSl] at hsl
    | cons sq q =>
      have hb' : sq = st → below p q = false := fun e => by
        subst e
        simpa [below, Path.pre] using hb
      have hpre : sq = st → (Path.pre (st :: p) (sq :: q) = Path.pre p q) := fun e => by subst e; simp [Path.pre]
      cases s with
      | pr a b =>
        obtain ⟨c1, c2, B1, B2, rfl, k1, k2, k3, k4, k5⟩ := hR
        have hl := k4.len
        have hA1 : At w ad c1 := fun A h j hj => by
          have := hA A h j (by rw [List.length_append]; omega)
          rwa [List.getElem?_append_left hj] at this
        have hA2 : At w (ad.map (·.add a.size)) c2 := fun A h j hj => by
          obtain ⟨A0, rfl, rfl⟩ := Option.map_eq_some_iff.1 h
          have := hA A0 rfl (c1.length + j) (by rw [List.length_append]; omega)
          rw [List.getElem?_append_right (by omega)] at this
          rw [add_add, ← hl, this]
          congr 1
          omega
        have hN1 : ∀ A, ad = some A → ¬ B1 A.block := fun A h hb => hN A h (k1 _ hb)
        have hN2 : ∀ A, ad.map (·.add a.size) = some A → ¬ B2 A.block := by
          intro A h hb
          obtain ⟨A0, h1, h2⟩ := Option.map_eq_some_iff.1 h
          rw [← h2, add_block] at hb
          exact hN A0 h1 (k2 _ hb)
        cases st with
        | l =>
          simp only [sub] at hs
          rw [List.take_left' hl] at hs
          have hcl : csub (.pr a b) (c1 ++ c2) (.l :: p) n = csub a c1 p n ++ c2 := by simp only [csub]; rw [List.take_left' hl, List.drop_left' hl]
          have hnl : (csub a c1 p n).length = a.size := by
            obtain ⟨cs1', ad1', Bp, t1, t2⟩ := lens p k4 hA1 hN1 hOk hg
            rw [t1] at hs
            obtain ⟨rfl, rfl⟩ := Prod.mk.inj (Option.some.inj hs)
            rw [csub_len p t1 hn]; exact hl
          rw [hcl]
          cases sq with
          | l =>
            simp only [sub] at hs3 ⊢
            rw [List.take_left' hl] at hs3
            rw [List.take_left' hnl, hpre rfl]
            exact ih q k4 hA1 hN1 hOk hg hs hC hn (hb' rfl) hOq hg3 hs3
          | r =>
            simp only [sub] at hs3 ⊢
            rw [List.drop_left' hl] at hs3
            rw [List.drop_left' hnl]
            refine ⟨cs3, ?_, fun _ _ => rfl⟩
            rw [← hs3]
            refine sub_frame q k5 hOq (fun b hb2 => ?_)
            obtain ⟨cs1', ad1', Bp, t1, t2, t3, _⟩ := lens p k4 hA1 hN1 hOk hg
            rw [t1] at hs
            obtain ⟨rfl, rfl⟩ := Prod.mk.inj (Option.some.inj hs)
            refine hC.other b (fun A hA' hEq => ?_)
            subst hEq
            rcases t3.block A hA' with ⟨A0, h1, h2⟩ | h
            · exact hN A0 h1 (h2 ▸ k2 _ hb2)
            · exact k3 _ h hb2
          | el i => simp [Ok] at hOq
        | r =>
          simp only [sub] at hs
          rw [List.drop_left' hl] at hs
          have hcl : csub (.pr a b) (c1 ++ c2) (.r :: p) n = c1 ++ csub b c2 p n := by simp only [csub]; rw [List.take_left' hl, List.drop_left' hl]
          rw [hcl]
          cases sq with
          | l =>
            simp only [sub] at hs3 ⊢
            rw [List.take_left' hl] at hs3 ⊢
            refine ⟨cs3, ?_, fun _ _ => rfl⟩
            rw [← hs3]
            refine sub_frame q k4 hOq (fun b hb2 => ?_)
            obtain ⟨cs1', ad1', Bp, t1, t2, t3, _⟩ := lens p k5 hA2 hN2 hOk hg
            rw [t1] at hs
            obtain ⟨rfl, rfl⟩ := Prod.mk.inj (Option.some.inj hs)
            refine hC.other b (fun A hA' hEq => ?_)
            subst hEq
            rcases t3.block A hA' with ⟨A0, h1, h2⟩ | h
            · obtain ⟨A1, h3, h4⟩ := Option.map_eq_some_iff.1 h1
              rw [← h4, add_block] at h2
              exact hN A1 h3 (h2 ▸ k1 _ hb2)
            · exact k3 _ hb2 h
          | r =>
            simp only [sub] at hs3 ⊢
            rw [List.drop_left' hl] at hs3 ⊢
            rw [hpre rfl]
            exact ih q k5 hA2 hN2 hOk hg hs hC hn (hb' rfl) hOq hg3 hs3
          | el i => simp [Ok] at hOq
        | el i => simp [Ok] at hOk
      | sl e s0 =>
        cases st with
        | el i =>
          cases sq with
          | el j =>
            obtain ⟨hf, hi, hOp'⟩ := hOk
            obtain ⟨_, hj, hOq'⟩ := hOq
            have aux : ∀ f0 : Fl, Ok s0 f0 (x.getD i s0.zero) p → Ok s0 f0 (x.getD j s0.zero) q → get s0 f0 (x.getD i s0.zero) p = some ⟨s1, f1, x1⟩ → get s0 f0 (x.getD j s0.zero) q = some ⟨s3, f3, x3⟩ → OwnR w e s0.size (fun x c B' => Rep w Z s0 f0 x c B') s0.zero x cs B →
                ∃ cs4, sub w' (.sl e s0) cs ad (.el j :: q) = some (cs4, ad3) ∧ (Path.pre (.el i :: p) (.el j :: q) = false → s3.isSl = true → cs4 = cs3) := by
              intro f0 hO1 hO2 hg1 hg2 hR
              rcases hR with ⟨A, rfl, rfl⟩ | ⟨g, cap, cur, rows, Bs, rfl, h2, h3, h4, h5, h6, h7, h8⟩
              · simp at hi
              obtain ⟨q1, q2, q3, q4⟩ := h7 i hi
              obtain ⟨u1, u2, u3, u4⟩ := h7 j hj
              have hAr : ∀ i : Nat, i < x.length → At w (some ((⟨g, 0, none⟩ : Addr).add (i * s0.size))) (rows i) := by
                intro i hi A hA' k hk
                obtain rfl := Option.some.inj hA'
                rw [(h7 i hi).1] at hk
                rw [add_add, cell_row h2, (h7 i hi).2.1 k hk]
              have hNr : ∀ i : Nat, i < x.length → ∀ A, some ((⟨g, 0, none⟩ : Addr).add (i * s0.size)) = some A → ¬ Bs i A.block := by
                intro i hi A hA' hb
                obtain rfl := Option.some.inj hA'
                rw [add_block] at hb
                exact ((h7 i hi).2.2.1 _ hb).2 rfl
              simp only [sub] at hs hs3
              rw [rowCells_eq q1 (fun k hk => by rw [add_add, cell_row h2, q2 k hk])] at hs
              rw [rowCells_eq u1 (fun k hk => by rw [add_add, cell_row h2, u2 k hk])] at hs3
              obtain ⟨cs1', ad1', Bp, t1, t2, t3, t4, t5, t6, t7⟩ := lens p q4 (hAr i hi) (hNr i hi) hO1 hg1
              have hs' := hs
              rw [t1] at hs'
              obtain ⟨rfl, rfl⟩ := Prod.mk.inj (Option.some.inj hs')
              by_cases hij : i = j
              · subst hij
                obtain ⟨cs4, v1, v2⟩ := ih q q4 (hAr i hi) (hNr i hi) hO1 hg1 hs hC hn (hb' rfl) hO2 hg2 hs3
                refine ⟨cs4, ?_, fun hp => v2 (by rwa [hpre rfl] at hp)⟩
                simp only [sub]
                rw [← v1]
                congr 1
                -- the element's cells behind the write
                refine rowCells_eq ((csub_len p t1 hn).trans q1) (fun k hk => ?_)
                exact wr_at p q4 (hAr i hi) (hNr i hi) hO1 hg1 t1 hC hn _ rfl k (by rw [csub_len p t1 hn, q1]; exact hk)
              · refine ⟨cs3, ?_, fun _ _ => rfl⟩
                simp only [sub]
                rw [rowCells_eq u1 (fun k hk => ?_)]
                · rw [← hs3]
                  refine sub_frame q u4 hO2 (fun b hb2 => hC.other b (fun A hA' hEq => ?_))
                  subst hEq
                  rcases t3.block A hA' with ⟨A0, e1, e2⟩ | h
                  · obtain rfl := Option.some.inj e1
                    rw [add_block] at e2
                    exact (u3 _ hb2).2 e2.symm
                  · exact h8 i j _ hi hj hij h hb2
                · have hc := hAr j hj _ rfl k (by omega)
                  rw [List.getElem?_eq_getElem (by omega)] at hc
                  rw [List.getElem?_eq_getElem (by omega)]
                  rcases hC with ⟨rfl, _⟩ | ⟨A', e1, e2, e3, e4⟩
                  · exact hc
                  · rw [add_add] at hc ⊢
                    by_cases hbk : A'.block = g
                    · rcases t3 with ⟨off, p1, p2⟩ | ⟨_, p2⟩
                      · rw [e1] at p1
                        have e5 : A' = ((⟨g, 0, none⟩ : Addr).add (i * s0.size)).add off := by simpa using p1
                        have e6 : A'.off = i * s0.size + off := by
                          have := (add_off (add_off (A := ⟨g, 0, none⟩) rfl (i * s0.size)).2 off).1
                          rw [← e5, (add_off (A := ⟨g, 0, none⟩) rfl (i * s0.size)).1] at this
                          simpa using this
                        rw [cell_row h2] at hc
                        rw [cell_row (by rw [← hbk]; exact e4.here _ _ _ (by rw [hbk]; exact h2)), wrArr_out _ _ _ _ ?_]
                        · exact hc
                        · rw [e6]
                          rcases Nat.lt_or_gt_of_ne hij with h | h
                          · have := Nat.mul_le_mul_right s0.size (show i + 1 ≤ j from h)
                            rw [Nat.add_mul, Nat.one_mul] at this
                            omega
                          · have := Nat.mul_le_mul_right s0.size (show j + 1 ≤ i from h)
                            rw [Nat.add_mul, Nat.one_mul] at this
                            omega
                      · exact absurd (p2 A' e1) (fun h => (q3 _ h).2 hbk)
                    · rw [World.cell?_of_block (w := w) (by rw [add_block]; exact e4.other g (fun h => hbk h.symm))]
                      exact hc
            have hcs : csub (.sl e s0) cs (.el i :: p) n = cs := rfl
            rw [hcs]
            rcases hf with rfl | rfl | ⟨n0, c0, rfl⟩
            · exact aux _ hOp' hOq' hg hg3 hR
            · exact aux _ hOp' hOq' hg hg3 hR
            · exact aux _ hOp' hOq' hg hg3 hR.1
          | l => simp [Ok] at hOq
          | r => simp [Ok] at hOq
        | l => simp [Ok] at hOk
        | r => simp [Ok] at hOk
      | unit => simp [Ok] at hOk
      | int _ => simp [Ok] at hOk
      | bool => simp [Ok] at hOk
      | str => simp [Ok] at hOk
end Go.Proofs.Yteeklekfafedcaa.V
