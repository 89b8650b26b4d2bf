/- Places: where they lie in memory, that they hold what the reading says, and what a write there makes of the whole. No condition. -/
import Derived.Test.YteeklekfafedcaaV1
set_option linter.unusedVariables false
namespace Go.Proofs.Yteeklekfafedcaa.V
open Go

def rowCells (w : World) (ad : Addr) (n : Nat) : List Value := (List.range n).map fun j => (w.cell? (ad.add j)).getD undef

/-- where a place lies: its cells, and (if in memory) their address -/
def sub (w : World) : (s : Sh) → List Value → Option Addr → Path → Option (List Value × Option Addr)
  | _, cs, ad, [] => some (cs, ad)
  | .pr a b, cs, ad, .l :: p => sub w a (cs.take a.size) ad p
  | .pr a b, cs, ad, .r :: p => sub w b (cs.drop a.size) (ad.map (·.add a.size)) p
  | .sl _ s, cs, _, .el i :: p => match cs with
    | [.slice (some ad) _ _] => sub w s (rowCells w (ad.add (i * s.size)) s.size) (some (ad.add (i * s.size))) p
    | _ => none
  | _, _, _, _ => none

def Ok : (s : Sh) → Fl → s.ty → Path → Prop
  | _, _, _, [] => True
  | .pr a _b, f, x, .l :: p => Ok a f.l x.1 p
  | .pr _a b, f, x, .r :: p => Ok b f.r x.2 p
  | .sl _ s, f, xs, .el i :: p => (f = .own ∨ f = .ownf ∨ ∃ n c, f = .io n c) ∧ i < xs.length ∧ Ok s f.el (xs.getD i s.zero) p
  | _, _, _, _ => False

/-- the cells lie at the address -/
def At (w : World) (ad : Option Addr) (cs : List Value) : Prop := ∀ A, ad = some A → ∀ j, j < cs.length → w.cell? (A.add j) = cs[j]?

theorem add_add (A : Addr) (i j : Nat) : (A.add i).add j = A.add (i + j) := by
  unfold Addr.add
  by_cases h1 : i = 0 <;> by_cases h2 : j = 0 <;> simp [h1, h2, Nat.add_assoc]
theorem add_block (A : Addr) (i : Nat) : (A.add i).block = A.block := by unfold Addr.add; split <;> rfl

theorem rowCells_eq {w : World} {ad : Addr} {n : Nat} {c : List Value} (hl : c.length = n) (h : ∀ j, j < n → w.cell? (ad.add j) = c[j]?) : rowCells w ad n = c := by
  apply List.ext_getElem
  · simp [rowCells, hl]
  · intro i h1 h2
    simp [rowCells, h i (by omega), List.getElem?_eq_getElem h2]

/-- the new contents of a place, in the cells of the whole -/
def csub : (s : Sh) → List Value → Path → List Value → List Value
  | _, _, [], n => n
  | .pr a _, cs, .l :: p, n => csub a (cs.take a.size) p n ++ cs.drop a.size
  | .pr a b, cs, .r :: p, n => cs.take a.size ++ csub b (cs.drop a.size) p n
  | _, cs, _, _ => cs

def wrArr (c : Array Value) (off : Nat) : List Value → Array Value
  | [] => c
  | v :: vs => wrArr (c.setIfInBounds off v) (off + 1) vs

theorem wrArr_size (vs : List Value) : ∀ (c : Array Value) (off : Nat), (wrArr c off vs).size = c.size := by
  induction vs with
  | nil => intro c off; rfl
  | cons v vs ih => intro c off; simp only [wrArr]; rw [ih]; simp
theorem wrArr_out (vs : List Value) : ∀ (c : Array Value) (off k : Nat), (k < off ∨ off + vs.length ≤ k) → (wrArr c off vs)[k]? = c[k]? := by
  induction vs with
  | nil => intro c off k _; rfl
  | cons v vs ih =>
    intro c off k h
    simp only [wrArr, List.length_cons] at h ⊢
    rw [ih _ _ _ (by omega), Array.getElem?_setIfInBounds_ne (by omega)]
theorem wrArr_in (vs : List Value) : ∀ (c : Array Value) (off k : Nat), off + vs.length ≤ c.size → k < vs.length → (wrArr c off vs)[off + k]? = vs[k]? := by
  induction vs with
  | nil => intro c off k _ h; simp at h
  | cons v vs ih =>
    intro c off k h1 h2
    simp only [List.length_cons] at h1 h2
    simp only [wrArr]
    cases k with
    | zero => rw [Nat.add_zero, wrArr_out _ _ _ _ (.inl (by omega))]; simp [Array.getElem?_setIfInBounds]; omega
    | succ k =>
      rw [show off + (k + 1) = off + 1 + k from by omega, ih _ _ _ (by simp; omega) (by omega)]
      simp

/-- w' is w, but for the cells from A on, which are now n -/
structure Wr (w w' : World) (A : Addr) (n : List Value) : Prop where
  other : ∀ b, b ≠ A.block → w'.heap[b]? = w.heap[b]?
  here : ∀ cur e fr, w.heap[A.block]? = some (.cells cur e fr) → w'.heap[A.block]? = some (.cells (wrArr cur A.off n) e fr)

/-- either nothing is written, or the place's cells are -/
def Chg (w w' : World) (ad : Option Addr) (cs n : List Value) : Prop := (w' = w ∧ n = cs) ∨ ∃ A, ad = some A ∧ A.spot = none ∧ n.length = cs.length ∧ Wr w w' A n

theorem Chg.other {w w' : World} {ad : Option Addr} {cs n : List Value} (h : Chg w w' ad cs n) (b : Nat) (hb : ∀ A, ad = some A → b ≠ A.block) : w'.heap[b]? = w.heap[b]? := by
  rcases h with ⟨rfl, _⟩ | ⟨A, h1, _, _, h2⟩
  · rfl
  · exact h2.other b (hb A h1)

theorem cell_at {w : World} {A : Addr} {cur : Array Value} {e : TypeId} {fr : Nat × Nat} (hs : A.spot = none) (h : w.heap[A.block]? = some (.cells cur e fr)) (j : Nat) : w.cell? (A.add j) = cur[A.off + j]? := by
  unfold World.cell?
  rw [add_block, h]
  unfold Addr.add
  by_cases hj : j = 0
  · simp [hj, hs]
  · simp [hj]
theorem cell_some {w : World} {A : Addr} {v : Value} (h : w.cell? A = some v) : A.spot = none ∧ ∃ cur e fr, w.heap[A.block]? = some (.cells cur e fr) := by
  unfold World.cell? at h
  split at h
  · rename_i c e fr hc
    split at h
    · cases h
    · rename_i hs
      exact ⟨by simpa using hs, _, _, _, hc⟩
  · cases h

theorem add_off {A : Addr} (h : A.spot = none) (n : Nat) : (A.add n).off = A.off + n ∧ (A.add n).spot = none := by
  unfold Addr.add
  by_cases hn : n = 0
  · simp [hn, h]
  · simp [hn]
theorem csub_nil (s : Sh) (cs n : List Value) : csub s cs [] n = n := by cases s <;> rfl
theorem sub_nil (w : World) (s : Sh) (cs : List Value) (ad : Option Addr) : sub w s cs ad [] = some (cs, ad) := by cases s <;> rfl

/-- where a place lies, seen from the whole -/
def Pos (ad : Option Addr) (m : Nat) (ad1 : Option Addr) (m1 : Nat) (B : Nat → Prop) : Prop := (∃ off, ad1 = ad.map (·.add off) ∧ off + m1 ≤ m) ∨ (ad1 ≠ none ∧ ∀ A, ad1 = some A → B A.block)
theorem Pos.block {ad : Option Addr} {m : Nat} {ad1 : Option Addr} {m1 : Nat} {B : Nat → Prop} (h : Pos ad m ad1 m1 B) (A : Addr) (hA : ad1 = some A) : (∃ A0, ad = some A0 ∧ A0.block = A.block) ∨ B A.block := by
  rcases h with ⟨off, h1, _⟩ | ⟨_, h2⟩
  · rw [hA] at h1
    obtain ⟨A0, h3, h4⟩ := Option.map_eq_some_iff.1 h1.symm
    exact .inl ⟨A0, h3, by rw [← h4, add_block]⟩
  · exact .inr (h2 A hA)
/-- a cell of the whole that is none of the place's -/
theorem Chg.cell {w w' : World} {ad ad1 : Option Addr} {m m1 : Nat} {B : Nat → Prop} {cs1 n : List Value} (hC : Chg w w' ad1 cs1 n) (hP : Pos ad m ad1 m1 B) (hm : cs1.length = m1) (hN : ∀ A, ad = some A → ¬ B A.block)
    {A : Addr} (hA : ad = some A) {j : Nat} {v : Value} (hc : w.cell? (A.add j) = some v) (hsp : A.spot = none) (hout : ∀ off, ad1 = ad.map (·.add off) → off + m1 ≤ m → j < off ∨ off + m1 ≤ j) : w'.cell? (A.add j) = some v := by
  rcases hC with ⟨rfl, _⟩ | ⟨A', h1, h2, h3, h4⟩
  · exact hc
  · obtain ⟨_, cur, e, fr, hcu⟩ := cell_some hc
    rw [add_block] at hcu
    by_cases hb : A.block = A'.block
    · rcases hP with ⟨off, p1, p2⟩ | ⟨_, p2⟩
      · have h5 := hout off p1 p2
        rw [hA, h1] at p1
        have h6 : A' = A.add off := by simpa using p1
        have h7 := (add_off hsp off).1
        rw [cell_at hsp hcu] at hc
        rw [cell_at hsp (show w'.heap[A.block]? = some (.cells (wrArr cur A'.off n) e fr) from by rw [hb]; exact h4.here _ _ _ (hb ▸ hcu)), wrArr_out n cur _ _ (by rw [h6, h7]; omega)]
        exact hc
      · exact absurd (hb ▸ p2 A' h1) (hN A hA)
    · exact (World.cell?_of_block (w := w) (by rw [add_block]; exact h4.other _ hb)).trans hc

theorem At.spot {w : World} {A : Addr} {cs : List Value} (h : At w (some A) cs) (hl : 0 < cs.length) : A.spot = none := by
  have := h A rfl 0 hl
  rw [List.getElem?_eq_getElem hl] at this
  have h7 := (cell_some this).1
  unfold Addr.add at h7; simpa using h7

def Lens (w : World) (Z : Nat → Prop) (s : Sh) (f : Fl) (x : s.ty) (cs : List Value) (ad : Option Addr) (B : Nat → Prop) (p : Path) (s1 : Sh) (f1 : Fl) (x1 : s1.ty) (cs1 : List Value) (ad1 : Option Addr) (B1 : Nat → Prop) : Prop :=
  At w ad1 cs1 ∧ Pos ad cs.length ad1 cs1.length B ∧ (∀ b, B1 b → B b) ∧ (∀ A, ad1 = some A → ¬ B1 A.block) ∧ Rep w Z s1 f1 x1 cs1 B1 ∧
      ∀ (w' : World) (n : List Value) (f2 : Fl) (x2 : s1.ty) (B2 : Nat → Prop) (f' : Fl) (x' : s.ty), Chg w w' ad1 cs1 n → (∀ A, ad1 = some A → w' ≠ w → ¬ Z A.block) →
        (∀ b, B2 b → ¬ (B b ∧ ¬ B1 b)) → (∀ A, ad = some A → ¬ B2 A.block) → (∀ A, ad1 = some A → ¬ B2 A.block) → Rep w' Z s1 f2 x2 n B2 → upd s1 f2 x2 s f x p = some (f', x') →
        Rep w' Z s f' x' (csub s cs p n) (fun b => (B b ∧ ¬ B1 b) ∨ B2 b) ∧ At w' ad (csub s cs p n)

theorem lens_l {w : World} {Z : Nat → Prop} {a b : Sh} {f : Fl} {x : (Sh.pr a b).ty} {cs : List Value} {ad : Option Addr} {B : Nat → Prop} {p : Path}
    (ih : ∀ {f : Fl} {x : a.ty} {cs : List Value} {ad : Option Addr} {B : Nat → Prop}, Rep w Z a f x cs B → At w ad cs → (∀ A, ad = some A → ¬ B A.block) → Ok a f x p → ∀ {s1 : Sh} {f1 : Fl} {x1 : s1.ty}, get a f x p = some ⟨s1, f1, x1⟩ → ∃ cs1 ad1 B1, sub w a cs ad p = some (cs1, ad1) ∧ Lens w Z a f x cs ad B p s1 f1 x1 cs1 ad1 B1)
    (hR : Rep w Z (.pr a b) f x cs B) (hA : At w ad cs) (hN : ∀ A, ad = some A → ¬ B A.block) (hOk : Ok (.pr a b) f x (.l :: p)) {s1 : Sh} {f1 : Fl} {x1 : s1.ty} (hg : get (.pr a b) f x (.l :: p) = some ⟨s1, f1, x1⟩) :
    ∃ cs1 ad1 B1, sub w (.pr a b) cs ad (.l :: p) = some (cs1, ad1) ∧ Lens w Z (.pr a b) f x cs ad B (.l :: p) s1 f1 x1 cs1 ad1 B1 := by
  obtain ⟨c1, c2, B1, B2, rfl, k1, k2, k3, k4, k5⟩ := hR
  have hl := k4.len
  have hA1 : At w ad c1 := fun A h j hj => by
    have := hA A h j (by rw [List.length_append]; omega)
    rwa [List.getElem?_append_left hj] at this
  obtain ⟨cs1, ad1, Bp, g1, g2, g3, g6, g7, g8, g9⟩ := ih k4 hA1 (fun A h hb => hN A h (k1 _ hb)) hOk hg
  refine ⟨cs1, ad1, Bp, ?_, g2, ?_, fun b hb => k1 b (g6 b hb), g7, g8, ?_⟩
  · simp only [sub]
    rw [List.take_left' hl]
    exact g1
  · rcases g3 with ⟨off, h1, h2⟩ | ⟨h1, h2⟩
    · exact .inl ⟨off, h1, by rw [List.length_append]; omega⟩
    · exact .inr ⟨h1, fun A h => k1 _ (h2 A h)⟩
  · intro w' n f2 x2 Bn f' x' hC hZ hBn hNn hNn1 hRn hu
    simp only [upd] at hu
    cases hq : upd s1 f2 x2 a f.l x.1 p with
    | none => rw [hq] at hu; cases hu
    | some q =>
      rw [hq] at hu
      simp only [Option.some.injEq, Prod.mk.injEq] at hu
      obtain ⟨rfl, rfl⟩ := hu
      obtain ⟨r1, r2⟩ := g9 w' n f2 x2 Bn q.1 q.2 hC hZ (fun b hb h => hBn b hb ⟨k1 b h.1, h.2⟩) hNn hNn1 hRn hq
      have hfr : ∀ b, Z b ∨ B2 b → w'.heap[b]? = w.heap[b]? := by
        intro b hb
        by_cases hw : w' = w
        · rw [hw]
        refine hC.other b (fun A hA' hEq => ?_)
        subst hEq
        rcases hb with hb | hb
        · exact hZ A hA' hw hb
        · rcases g3.block A hA' with ⟨A0, h1, h2⟩ | h
          · exact hN A0 h1 (h2 ▸ k2 _ hb)
          · exact k3 _ h hb
      have hcl : csub (.pr a b) (c1 ++ c2) (.l :: p) n = csub a c1 p n ++ c2 := by simp only [csub]; rw [List.take_left' hl, List.drop_left' hl]
      rw [hcl]
      refine ⟨⟨csub a c1 p n, c2, fun b => (B1 b ∧ ¬ Bp b) ∨ Bn b, B2, rfl, fun b hb => ?_, fun b hb => .inl ⟨k2 b hb, fun h => k3 b (g6 b h) hb⟩, fun b hb hb2 => ?_, r1, k5.frame (fun _ h => h) hfr⟩, ?_⟩
      · rcases hb with hb | hb
        · exact .inl ⟨k1 b hb.1, hb.2⟩
        · exact .inr hb
      · rcases hb with hb | hb
        · exact k3 b hb.1 hb2
        · exact hBn b hb ⟨k2 b hb2, fun h => k3 b (g6 b h) hb2⟩
      · intro A hAd j hj
        have hlen := r1.len
        rw [List.length_append] at hj
        by_cases hj1 : j < a.size
        · rw [List.getElem?_append_left (by omega)]
          exact r2 A hAd j (by omega)
        · rw [List.getElem?_append_right (by omega)]
          have h5 := hA A hAd j (by rw [List.length_append]; omega)
          rw [List.getElem?_append_right (by omega)] at h5
          rw [show j - (csub a c1 p n).length = j - c1.length from by omega, List.getElem?_eq_getElem (by omega)]
          rw [List.getElem?_eq_getElem (by omega)] at h5
          have hsp : A.spot = none := At.spot (hAd ▸ hA) (by rw [List.length_append]; omega)
          exact hC.cell g3 rfl (fun A h hb => hN A h (k1 _ hb)) hAd h5 hsp (fun off _ h2 => .inr (by omega))

theorem lens_r {w : World} {Z : Nat → Prop} {a b : Sh} {f : Fl} {x : (Sh.pr a b).ty} {cs : List Value} {ad : Option Addr} {B : Nat → Prop} {p : Path}
    (ih : ∀ {f : Fl} {x : b.ty} {cs : List Value} {ad : Option Addr} {B : Nat → Prop}, Rep w Z b f x cs B → At w ad cs → (∀ A, ad = some A → ¬ B A.block) → Ok b f x p → ∀ {s1 : Sh} {f1 : Fl} {x1 : s1.ty}, get b f x p = some ⟨s1, f1, x1⟩ → ∃ cs1 ad1 B1, sub w b cs ad p = some (cs1, ad1) ∧ Lens w Z b f x cs ad B p s1 f1 x1 cs1 ad1 B1)
    (hR : Rep w Z (.pr a b) f x cs B) (hA : At w ad cs) (hN : ∀ A, ad = some A → ¬ B A.block) (hOk : Ok (.pr a b) f x (.r :: p)) {s1 : Sh} {f1 : Fl} {x1 : s1.ty} (hg : get (.pr a b) f x (.r :: p) = some ⟨s1, f1, x1⟩) :
    ∃ cs1 ad1 B1, sub w (.pr a b) cs ad (.r :: p) = some (cs1, ad1) ∧ Lens w Z (.pr a b) f x cs ad B (.r :: p) s1 f1 x1 cs1 ad1 B1 := by
  obtain ⟨c1, c2, B1, B2, rfl, k1, k2, k3, k4, k5⟩ := hR
  have hl := k4.len
  have hl2 := k5.len
  have hA2 : At w (ad.map (·.add a.size)) c2 := fun A h j hj => by
    obtain ⟨A0, rfl, rfl⟩ := Option.map_eq_some_iff.1 h
    have := hA A0 rfl (c1.length + j) (by rw [List.length_append]; omega)
    rw [List.getElem?_append_right (by omega)] at this
    rw [add_add, ← hl, this]
    congr 1
    omega
  have hN2 : ∀ (C : Nat → Prop), (∀ A, ad = some A → ¬ C A.block) → ∀ A, ad.map (·.add a.size) = some A → ¬ C A.block := by
    intro C hC A h hb
    obtain ⟨A0, h1, h2⟩ := Option.map_eq_some_iff.1 h
    rw [← h2, add_block] at hb
    exact hC A0 h1 hb
  obtain ⟨cs1, ad1, Bp, g1, g2, g3, g6, g7, g8, g9⟩ := ih k5 hA2 (hN2 _ (fun A h hb => hN A h (k2 _ hb))) hOk hg
  have g3' : Pos ad (c1 ++ c2).length ad1 cs1.length B2 := by
    rcases g3 with ⟨off, h1, h2⟩ | ⟨h1, h2⟩
    · refine .inl ⟨a.size + off, ?_, by rw [List.length_append]; omega⟩
      rw [h1]
      cases ad with
      | none => rfl
      | some A => simp [add_add]
    · exact .inr ⟨h1, h2⟩
  refine ⟨cs1, ad1, Bp, ?_, g2, ?_, fun b hb => k2 b (g6 b hb), g7, g8, ?_⟩
  · simp only [sub]
    rw [List.drop_left' hl]
    exact g1
  · rcases g3' with h | ⟨h1, h2⟩
    · exact .inl h
    · exact .inr ⟨h1, fun A h => k2 _ (h2 A h)⟩
  · intro w' n f2 x2 Bn f' x' hC hZ hBn hNn hNn1 hRn hu
    simp only [upd] at hu
    cases hq : upd s1 f2 x2 b f.r x.2 p with
    | none => rw [hq] at hu; cases hu
    | some q =>
      rw [hq] at hu
      simp only [Option.some.injEq, Prod.mk.injEq] at hu
      obtain ⟨rfl, rfl⟩ := hu
      obtain ⟨r1, r2⟩ := g9 w' n f2 x2 Bn q.1 q.2 hC hZ (fun b hb h => hBn b hb ⟨k2 b h.1, h.2⟩) (hN2 _ hNn) hNn1 hRn hq
      have hfr : ∀ b, Z b ∨ B1 b → w'.heap[b]? = w.heap[b]? := by
        intro b hb
        by_cases hw : w' = w
        · rw [hw]
        refine hC.other b (fun A hA' hEq => ?_)
        subst hEq
        rcases hb with hb | hb
        · exact hZ A hA' hw hb
        · rcases g3'.block A hA' with ⟨A0, h1, h2⟩ | h
          · exact hN A0 h1 (h2 ▸ k1 _ hb)
          · exact k3 _ hb h
      have hcl : csub (.pr a b) (c1 ++ c2) (.r :: p) n = c1 ++ csub b c2 p n := by simp only [csub]; rw [List.take_left' hl, List.drop_left' hl]
      rw [hcl]
      refine ⟨⟨c1, csub b c2 p n, B1, fun b => (B2 b ∧ ¬ Bp b) ∨ Bn b, rfl, fun b hb => .inl ⟨k1 b hb, fun h => k3 b hb (g6 b h)⟩, fun b hb => ?_, fun b hb1 hb => ?_, k4.frame (fun _ h => h) hfr, r1⟩, ?_⟩
      · rcases hb with hb | hb
        · exact .inl ⟨k2 b hb.1, hb.2⟩
        · exact .inr hb
      · rcases hb with hb | hb
        · exact k3 b hb1 hb.1
        · exact hBn b hb ⟨k1 b hb1, fun h => k3 b hb1 (g6 b h)⟩
      · intro A hAd j hj
        have hlen := r1.len
        rw [List.length_append] at hj
        by_cases hj1 : j < a.size
        · rw [List.getElem?_append_left (by omega)]
          have h5 := hA A hAd j (by rw [List.length_append]; omega)
          rw [List.getElem?_append_left (by omega), List.getElem?_eq_getElem (by omega)] at h5
          rw [List.getElem?_eq_getElem (by omega)]
          have hsp : A.spot = none := At.spot (hAd ▸ hA) (by rw [List.length_append]; omega)
          refine hC.cell g3' rfl (fun A h hb => hN A h (k2 _ hb)) hAd h5 hsp (fun off q1 q2 => .inl ?_)
          rcases g3 with ⟨off0, p1, p2⟩ | ⟨p1, p2⟩
          · rw [hAd] at p1 q1
            rw [p1] at q1
            have e : (A.add a.size).add off0 = A.add off := by simpa using q1
            have e1 := (add_off (add_off hsp a.size).2 off0).1
            rw [e, (add_off hsp a.size).1, (add_off hsp off).1] at e1
            omega
          · rw [hAd] at q1
            exact absurd (add_block A off ▸ p2 _ q1) (fun h => hN A hAd (k2 _ h))
        · have e : a.size + (j - c1.length) = j := by omega
          rw [List.getElem?_append_right (by omega), ← r2 (A.add a.size) (by rw [hAd]; rfl) (j - c1.length) (by omega), add_add, e]

theorem mul_lt_apart {i j n k l : Nat} (h : i ≠ j) (hk : k < n) (hl : l < n) : i * n + k ≠ j * n + l := by
  intro e
  rcases Nat.lt_or_gt_of_ne h with h | h
  · have := Nat.mul_le_mul_right n (show i + 1 ≤ j from h)
    rw [Nat.add_mul, Nat.one_mul] at this
    omega
  · have := Nat.mul_le_mul_right n (show j + 1 ≤ i from h)
    rw [Nat.add_mul, Nat.one_mul] at this
    omega

theorem wr_spec {f : Fl} (h : f.wr = true) : f = .own ∨ f = .ownf ∨ ∃ n c, f = .io n c := by
  cases f <;> simp_all [Fl.wr]

/-- the element of a row of the call's own: what a write inside it makes of the row -/
theorem lens_row {w : World} {Z : Nat → Prop} {e : TypeId} {s : Sh} {f0 : Fl} {xs : List s.ty} {cs : List Value} {ad : Option Addr} {B : Nat → Prop} {i : Nat} {p : Path} (hi : i < xs.length)
    (ih : ∀ {f : Fl} {x : s.ty} {cs : List Value} {ad : Option Addr} {B : Nat → Prop}, Rep w Z s f x cs B → At w ad cs → (∀ A, ad = some A → ¬ B A.block) → Ok s f x p → ∀ {s1 : Sh} {f1 : Fl} {x1 : s1.ty}, get s f x p = some ⟨s1, f1, x1⟩ → ∃ cs1 ad1 B1, sub w s cs ad p = some (cs1, ad1) ∧ Lens w Z s f x cs ad B p s1 f1 x1 cs1 ad1 B1)
    (hR : OwnR w e s.size (fun x c B' => Rep w Z s f0 x c B') s.zero xs cs B) (hA : At w ad cs) (hN : ∀ A, ad = some A → ¬ B A.block) (hOk : Ok s f0 (xs.getD i s.zero) p) {s1 : Sh} {f1 : Fl} {x1 : s1.ty} (hg : get s f0 (xs.getD i s.zero) p = some ⟨s1, f1, x1⟩) :
    ∃ cs1 ad1 B1, sub w (.sl e s) cs ad (.el i :: p) = some (cs1, ad1) ∧ At w ad1 cs1 ∧ (ad1 ≠ none ∧ ∀ A, ad1 = some A → B A.block) ∧ (∀ b, B1 b → B b) ∧ (∀ A, ad1 = some A → ¬ B1 A.block) ∧ Rep w Z s1 f1 x1 cs1 B1 ∧
      ∀ (w' : World) (n : List Value) (f2 : Fl) (x2 : s1.ty) (B2 : Nat → Prop) (f' : Fl) (x' : s.ty), Chg w w' ad1 cs1 n → (∀ A, ad1 = some A → w' ≠ w → ¬ Z A.block) →
        (∀ b, B2 b → ¬ (B b ∧ ¬ B1 b)) → (∀ A, ad = some A → ¬ B2 A.block) → (∀ A, ad1 = some A → ¬ B2 A.block) → Rep w' Z s1 f2 x2 n B2 → upd s1 f2 x2 s f0 (xs.getD i s.zero) p = some (f', x') → (s.plain = true ∨ f' = f0) →
        OwnR w' e s.size (fun x c B' => Rep w' Z s f0 x c B') s.zero (xs.set i x') cs (fun b => (B b ∧ ¬ B1 b) ∨ B2 b) ∧ At w' ad cs := by
  rcases hR with ⟨A, rfl, rfl⟩ | ⟨g, cap, cur, rows, Bs, rfl, h2, h3, h4, h5, h6, h7, h8⟩
  · simp at hi
  obtain ⟨q1, q2, q3, q4⟩ := h7 i hi
  have hAr : At w (some ((⟨g, 0, none⟩ : Addr).add (i * s.size))) (rows i) := by
    intro A hA' j hj
    obtain rfl := Option.some.inj hA'
    rw [add_add, cell_row h2, q2 j (by omega)]
  have hgb : ∀ A, some ((⟨g, 0, none⟩ : Addr).add (i * s.size)) = some A → A.block = g := fun A hA' => by
    obtain rfl := Option.some.inj hA'
    rw [add_block]
  obtain ⟨cs1, ad1, B1, g1, g2, g3, g6, g7, g8, g9⟩ := ih q4 hAr (fun A hA' hb => (q3 _ hb).2 (hgb A hA')) hOk hg
  have hpos : ad1 ≠ none ∧ ∀ A, ad1 = some A → (A.block = g ∨ Bs i A.block) := by
    refine ⟨?_, fun A hA' => ?_⟩
    · rcases g3 with ⟨off, h, _⟩ | ⟨h, _⟩
      · rw [h]; simp
      · exact h
    · rcases g3.block A hA' with ⟨A0, e1, e2⟩ | h
      · exact .inl (e2 ▸ hgb A0 e1)
      · exact .inr h
  refine ⟨cs1, ad1, B1, ?_, g2, ⟨hpos.1, fun A hA' => ?_⟩, fun b hb => (q3 b (g6 b hb)).1, g7, g8, ?_⟩
  · simp only [sub]
    rw [rowCells_eq q1 (fun j hj => by rw [add_add, cell_row h2, q2 j hj])]
    exact g1
  · rcases hpos.2 A hA' with h | h
    · rw [h]; exact h6
    · exact (q3 _ h).1
  intro w' n f2 x2 B2 f' x' hC hZ hB2 hN2 hN21 hR2 hu hfl
  have hB2g : ¬ B2 g := fun h => hB2 g h ⟨h6, fun h' => (q3 _ (g6 _ h')).2 rfl⟩
  obtain ⟨r1, r2⟩ := g9 w' n f2 x2 B2 f' x' hC hZ (fun b hb h => hB2 b hb ⟨(q3 b h.1).1, h.2⟩) (fun A hA' hb => hB2g (hgb A hA' ▸ hb)) hN21 hR2 hu
  have hlen := r1.len
  -- the row's block behind the write
  obtain ⟨cur', c1, c2, c3⟩ : ∃ cur', w'.heap[g]? = some (.cells cur' e (0, 0)) ∧ cur'.size = cur.size ∧ ∀ j k, j < xs.length → j ≠ i → k < s.size → cur'[j * s.size + k]? = cur[j * s.size + k]? := by
    rcases hC with ⟨rfl, _⟩ | ⟨A, e1, e2, e3, e4⟩
    · exact ⟨cur, h2, rfl, fun _ _ _ _ _ => rfl⟩
    · by_cases hb : A.block = g
      · subst hb
        refine ⟨_, e4.here _ _ _ h2, wrArr_size _ _ _, fun j k hj hne hk => ?_⟩
        rcases g3 with ⟨off, p1, p2⟩ | ⟨_, p2⟩
        · rw [e1] at p1
          have e5 : A = ((⟨A.block, 0, none⟩ : Addr).add (i * s.size)).add off := by simpa using p1
          have e6 : A.off = i * s.size + off := by
            have := (add_off (add_off (A := ⟨A.block, 0, none⟩) rfl (i * s.size)).2 off).1
            rw [← e5, (add_off (A := ⟨A.block, 0, none⟩) rfl (i * s.size)).1] at this
            simpa using this
          refine wrArr_out _ _ _ _ ?_
          rw [e6]
          have hbd : j * s.size + k < i * s.size + off ∨ i * s.size + off + n.length ≤ j * s.size + k := by
            rcases Nat.lt_or_gt_of_ne hne with h | h
            · have := Nat.mul_le_mul_right s.size (show j + 1 ≤ i from h)
              rw [Nat.add_mul, Nat.one_mul] at this
              omega
            · have := Nat.mul_le_mul_right s.size (show i + 1 ≤ j from h)
              rw [Nat.add_mul, Nat.one_mul] at this
              omega
          exact hbd
        · exact absurd (p2 A e1) (fun h => (q3 _ h).2 rfl)
      · exact ⟨cur, (e4.other g (fun h => hb h.symm)).trans h2, rfl, fun _ _ _ _ _ => rfl⟩
  refine ⟨.inr ⟨g, cap, cur', fun j => if j = i then csub s (rows i) p n else rows j, fun j b => if j = i then (Bs i b ∧ ¬ B1 b) ∨ B2 b else Bs j b, by rw [List.length_set], c1, by rw [List.length_set]; exact h3, h4, by rw [c2]; exact h5, .inl ⟨h6, fun h => (q3 _ (g6 _ h)).2 rfl⟩, ?_, ?_⟩, ?_⟩
  · intro j hj
    rw [List.length_set] at hj
    by_cases hji : j = i
    · subst hji
      simp only [if_true]
      refine ⟨hlen, fun k hk => ?_, fun b hb => ?_, ?_⟩
      · have := r2 _ rfl k (by omega)
        rw [add_add, cell_row c1] at this
        exact this
      · rcases hb with hb | hb
        · exact ⟨.inl ⟨(q3 b hb.1).1, hb.2⟩, (q3 b hb.1).2⟩
        · exact ⟨.inr hb, fun h => hB2g (h ▸ hb)⟩
      · have e1 : (xs.set j x').getD j s.zero = x' := by simp [List.getD_eq_getElem?_getD, hj]
        rw [e1]
        rcases hfl with h | h
        · exact r1.plain h
        · rw [← h]; exact r1
    · simp only [if_neg hji]
      obtain ⟨t1, t2, t3, t4⟩ := h7 j hj
      refine ⟨t1, fun k hk => ?_, fun b hb => ⟨.inl ⟨(t3 b hb).1, fun h => h8 j i b hj hi hji hb (g6 b h)⟩, (t3 b hb).2⟩, ?_⟩
      · rw [c3 j k hj hji hk]; exact t2 k hk
      · have e1 : (xs.set i x').getD j s.zero = xs.getD j s.zero := by
          rw [List.getD_eq_getElem?_getD, List.getD_eq_getElem?_getD, List.getElem?_set_ne (fun h => hji h.symm)]
        rw [e1]
        refine t4.frame (fun _ h => h) (fun b hb => ?_)
        by_cases hw : w' = w
        · rw [hw]
        refine hC.other b (fun A hA' hEq => ?_)
        subst hEq
        rcases hb with hb | hb
        · exact hZ A hA' hw hb
        · rcases hpos.2 A hA' with h | h
          · exact (t3 _ hb).2 h
          · exact h8 j i _ hj hi hji hb h
  · intro j k b hj hk hjk hb1 hb2
    rw [List.length_set] at hj hk
    by_cases hji : j = i
    · subst hji
      rw [if_pos rfl] at hb1
      rw [if_neg (fun h => hjk h.symm)] at hb2
      rcases hb1 with h | h
      · exact h8 j k b hj hk hjk h.1 hb2
      · exact hB2 b h ⟨((h7 k hk).2.2.1 b hb2).1, fun h' => h8 j k b hj hk hjk (g6 b h') hb2⟩
    · rw [if_neg hji] at hb1
      by_cases hki : k = i
      · subst hki
        rw [if_pos rfl] at hb2
        rcases hb2 with h | h
        · exact h8 j k b hj hk hjk hb1 h.1
        · exact hB2 b h ⟨((h7 j hj).2.2.1 b hb1).1, fun h' => h8 j k b hj hk hjk hb1 (g6 b h')⟩
      · rw [if_neg hki] at hb2
        exact h8 j k b hj hk hjk hb1 hb2
  · intro A hAd j hj
    rw [← hA A hAd j hj]
    by_cases hw : w' = w
    · rw [hw]
    refine World.cell?_of_block ?_
    rw [add_block]
    refine hC.other _ (fun A' hA' hEq => ?_)
    refine hN A hAd (hEq ▸ ?_)
    rcases hpos.2 A' hA' with h | h
    · rw [h]; exact h6
    · exact (q3 _ h).1

theorem lens {w : World} {Z : Nat → Prop} : ∀ (p : Path) {s : Sh} {f : Fl} {x : s.ty} {cs : List Value} {ad : Option Addr} {B : Nat → Prop}, Rep w Z s f x cs B → At w ad cs → (∀ A, ad = some A → ¬ B A.block) → Ok s f x p →
    ∀ {s1 : Sh} {f1 : Fl} {x1 : s1.ty}, get s f x p = some ⟨s1, f1, x1⟩ → ∃ cs1 ad1 B1, sub w s cs ad p = some (cs1, ad1) ∧ Lens w Z s f x cs ad B p s1 f1 x1 cs1 ad1 B1 := by
  intro p
  induction p with
  | nil =>
    intro s f x cs ad B hR hA hN _ s1 f1 x1 hg
    have hg' : (⟨s, f, x⟩ : (s : Sh) × Fl × s.ty) = ⟨s1, f1, x1⟩ := by
      have : get s f x [] = some ⟨s, f, x⟩ := by cases s <;> rfl
      rw [this] at hg
      exact Option.some.inj hg
    simp only [Sigma.mk.injEq] at hg'
    obtain ⟨rfl, hg'⟩ := hg'
    obtain ⟨rfl, rfl⟩ := Prod.mk.inj (eq_of_heq hg')
    refine ⟨cs, ad, B, sub_nil _ _ _ _, hA, .inl ⟨0, by cases ad <;> simp [Addr.add], by omega⟩, fun _ h => h, hN, hR, ?_⟩
    intro w' n f2 x2 B2 f' x' hC hZ hB2 hN2 hN21 hR2 hu
    have hu' : upd s f2 x2 s f x [] = some (f2, x2) := by
      have : upd s f2 x2 s f x [] = if h : s = s then some (f2, h ▸ x2) else none := by cases s <;> rfl
      rw [this]; simp
    rw [hu'] at hu
    obtain ⟨rfl, rfl⟩ := Prod.mk.inj (Option.some.inj hu)
    rw [csub_nil]
    refine ⟨hR2.mono (fun b hb => .inr hb), ?_⟩
    intro A hAd j hj
    rcases hC with ⟨rfl, rfl⟩ | ⟨A', h1, h2, h3, h4⟩
    · exact hA A hAd j hj
    · rw [hAd] at h1
      obtain rfl := Option.some.inj h1
      have h5 := hA A hAd j (by omega)
      rw [List.getElem?_eq_getElem (by omega)] at h5
      obtain ⟨_, cur, e, fr, hc⟩ := cell_some h5
      rw [add_block] at hc
      rw [cell_at h2 (h4.here _ _ _ hc) j]
      refine wrArr_in n cur A.off j ?_ hj
      have h6 := hA A hAd (cs.length - 1) (by omega)
      rw [cell_at h2 hc, List.getElem?_eq_getElem (by omega)] at h6
      have := (Array.getElem?_eq_some_iff.1 h6).1
      omega
  | cons st p ih =>
    intro s f x cs ad B hR hA hN hOk s1 f1 x1 hg
    cases s with
    | pr a b =>
      cases st with
      | l => exact lens_l (fun {_ _ _ _ _} a1 a2 a3 a4 {_ _ _} a5 => ih a1 a2 a3 a4 a5) hR hA hN hOk hg
      | r => exact lens_r (fun {_ _ _ _ _} a1 a2 a3 a4 {_ _ _} a5 => ih a1 a2 a3 a4 a5) hR hA hN hOk hg
      | el i => simp [Ok] at hOk
    | sl e s0 =>
      cases st with
      | el i =>
        obtain ⟨hf, hi, hOk'⟩ := hOk
        rcases hf with rfl | rfl | ⟨n0, c0, rfl⟩
        · obtain ⟨cs1, ad1, B1, g1, g2, g3, g4, g5, g6, g7⟩ := lens_row hi (fun {_ _ _ _ _} a1 a2 a3 a4 {_ _ _} a5 => ih a1 a2 a3 a4 a5) hR hA hN hOk' hg
          refine ⟨cs1, ad1, B1, g1, g2, .inr g3, g4, g5, g6, ?_⟩
          intro w' n f2 x2 B2 f' x' hC hZ hB2 hN2 hN21 hR2 hu
          simp only [upd] at hu
          cases hq : upd s1 f2 x2 s0 .own (x.getD i s0.zero) p with
          | none => rw [hq] at hu; cases hu
          | some q =>
            rw [hq] at hu
            simp only at hu
            split at hu
            · rename_i hfl
              obtain ⟨rfl, rfl⟩ := Prod.mk.inj (Option.some.inj hu)
              simp only [Bool.or_eq_true, beq_iff_eq] at hfl
              exact g7 w' n f2 x2 B2 q.1 q.2 hC hZ hB2 hN2 hN21 hR2 hq hfl
            · cases hu
        · obtain ⟨cs1, ad1, B1, g1, g2, g3, g4, g5, g6, g7⟩ := lens_row hi (fun {_ _ _ _ _} a1 a2 a3 a4 {_ _ _} a5 => ih a1 a2 a3 a4 a5) hR hA hN hOk' hg
          refine ⟨cs1, ad1, B1, g1, g2, .inr g3, g4, g5, g6, ?_⟩
          intro w' n f2 x2 B2 f' x' hC hZ hB2 hN2 hN21 hR2 hu
          simp only [upd] at hu
          cases hq : upd s1 f2 x2 s0 .fz (x.getD i s0.zero) p with
          | none => rw [hq] at hu; cases hu
          | some q =>
            rw [hq] at hu
            simp only at hu
            split at hu
            · rename_i hfl
              obtain ⟨rfl, rfl⟩ := Prod.mk.inj (Option.some.inj hu)
              simp only [Bool.or_eq_true, beq_iff_eq] at hfl
              exact g7 w' n f2 x2 B2 q.1 q.2 hC hZ hB2 hN2 hN21 hR2 hq hfl
            · cases hu
        · obtain ⟨cs1, ad1, B1, g1, g2, g3, g4, g5, g6, g7⟩ := lens_row hi (fun {_ _ _ _ _} a1 a2 a3 a4 {_ _ _} a5 => ih a1 a2 a3 a4 a5) hR.1 hA hN hOk' hg
          refine ⟨cs1, ad1, B1, g1, g2, .inr g3, g4, g5, g6, ?_⟩
          intro w' n f2 x2 B2 f' x' hC hZ hB2 hN2 hN21 hR2 hu
          simp only [upd] at hu
          cases hq : upd s1 f2 x2 s0 .own (x.getD i s0.zero) p with
          | none => rw [hq] at hu; cases hu
          | some q =>
            rw [hq] at hu
            simp only at hu
            split at hu
            · rename_i hfl
              obtain ⟨rfl, rfl⟩ := Prod.mk.inj (Option.some.inj hu)
              simp only [Bool.or_eq_true, beq_iff_eq] at hfl
              obtain ⟨u1, u2⟩ := g7 w' n f2 x2 B2 q.1 q.2 hC hZ hB2 hN2 hN21 hR2 hq hfl
              exact ⟨⟨u1, by rw [List.length_set]; exact hR.2⟩, u2⟩
            · cases hu
      | l => simp [Ok] at hOk
      | r => simp [Ok] at hOk
    | unit => simp [Ok] at hOk
    | int _ => simp [Ok] at hOk
    | bool => simp [Ok] at hOk
    | str => simp [Ok] at hOk
end Go.Proofs.Yteeklekfafedcaa.V
