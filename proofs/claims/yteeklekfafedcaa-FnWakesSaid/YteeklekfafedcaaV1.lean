/- The reading against memory: what represents a typed value (frozen or one's own), and the laws of places in it. No condition. -/
import Derived.Test.YteeklekfafedcaaV0
import Derived.Below
set_option linter.unusedVariables false
namespace Go.Proofs.Yteeklekfafedcaa.V
open Go

/-- a row of the call's own -/
def OwnR {α : Type} (w : World) (e : TypeId) (n : Nat) (R : α → List Value → (Nat → Prop) → Prop) (z : α) (xs : List α) (cs : List Value) (B : Nat → Prop) : Prop :=
  (∃ A, cs = [.slice A 0 0] ∧ xs = []) ∨
  ∃ g cap cur, ∃ rows : Nat → List Value, ∃ Bs : Nat → Nat → Prop, cs = [.slice (some ⟨g, 0, none⟩) xs.length cap] ∧ w.heap[g]? = some (.cells cur e (0, 0)) ∧ xs.length ≤ cap ∧ cap ≤ maxLen ∧ cur.size = cap * n ∧ B g ∧
    (∀ i, i < xs.length → (rows i).length = n ∧ (∀ j, j < n → cur[i * n + j]? = (rows i)[j]?) ∧ (∀ b, Bs i b → B b ∧ b ≠ g) ∧ R (xs.getD i z) (rows i) (Bs i)) ∧
    (∀ i j b, i < xs.length → j < xs.length → i ≠ j → Bs i b → Bs j b → False)

/-- a row of frozen memory -/
def FzR {α : Type} (w : World) (Z : Nat → Prop) (n : Nat) (R : α → List Value → Prop) (z : α) (xs : List α) (cs : List Value) : Prop :=
  ∃ A c, cs = [.slice A xs.length c] ∧ xs.length ≤ c ∧ xs.length ≤ maxLen ∧ (0 < xs.length → ∃ ad : Addr, A = some ad ∧ Z ad.block ∧ ∀ i, i < xs.length → ∃ c' : List Value, c'.length = n ∧ (∀ j, j < n → w.cell? (ad.add (i * n + j)) = c'[j]?) ∧ R (xs.getD i z) c')

def Rep (w : World) (Z : Nat → Prop) : (s : Sh) → Fl → s.ty → List Value → (Nat → Prop) → Prop
  | .unit, _, _, cs, _ => cs = []
  | .int k, _, x, cs, _ => cs = [.int k x]
  | .bool, _, x, cs, _ => cs = [.bool x]
  | .str, _, x, cs, _ => cs = [.string x]
  | .pr a b, f, x, cs, B => ∃ c1 c2, ∃ B1 B2 : Nat → Prop, cs = c1 ++ c2 ∧ (∀ n, B1 n → B n) ∧ (∀ n, B2 n → B n) ∧ (∀ n, B1 n → B2 n → False) ∧ Rep w Z a f.l x.1 c1 B1 ∧ Rep w Z b f.r x.2 c2 B2
  | .sl e s, f, xs, cs, B => match f with
    | .fz => FzR w Z s.size (fun x c => Rep w Z s .fz x c (fun _ => False)) s.zero xs cs
    | .own => OwnR w e s.size (fun x c B' => Rep w Z s .own x c B') s.zero xs cs B
    | .ownf => OwnR w e s.size (fun x c B' => Rep w Z s .fz x c B') s.zero xs cs B
    | .io n c => OwnR w e s.size (fun x c B' => Rep w Z s .own x c B') s.zero xs cs B ∧ cs = [.slice (some ⟨n, 0, none⟩) (List.length xs) c]
    | .kz A c => FzR w Z s.size (fun x c => Rep w Z s .fz x c (fun _ => False)) s.zero xs cs ∧ cs = [.slice A (List.length xs) c]
    | _ => ∃ v : Value, cs = [v] ∧ v.oneCell' = true

theorem OwnR.imp {α : Type} {w : World} {e : TypeId} {n : Nat} {R R' : α → List Value → (Nat → Prop) → Prop} {z : α} {xs : List α} {cs : List Value} {B : Nat → Prop} (h : OwnR w e n R z xs cs B)
    (k : ∀ i c B', i < xs.length → R (xs.getD i z) c B' → R' (xs.getD i z) c B') : OwnR w e n R' z xs cs B := by
  rcases h with h | ⟨g, cap, cur, rows, Bs, h1, h2, h3, h4, h5, h6, h7, h8⟩
  · exact .inl h
  · exact .inr ⟨g, cap, cur, rows, Bs, h1, h2, h3, h4, h5, h6, fun i hi => ⟨(h7 i hi).1, (h7 i hi).2.1, (h7 i hi).2.2.1, k i _ _ hi (h7 i hi).2.2.2⟩, h8⟩
theorem FzR.imp {α : Type} {w : World} {Z : Nat → Prop} {n : Nat} {R R' : α → List Value → Prop} {z : α} {xs : List α} {cs : List Value} (h : FzR w Z n R z xs cs)
    (k : ∀ i c, i < xs.length → R (xs.getD i z) c → R' (xs.getD i z) c) : FzR w Z n R' z xs cs := by
  obtain ⟨A, c, h1, h2, h3, h4⟩ := h
  refine ⟨A, c, h1, h2, h3, fun hp => ?_⟩
  obtain ⟨ad, e1, e2, e3⟩ := h4 hp
  refine ⟨ad, e1, e2, fun i hi => ?_⟩
  obtain ⟨c', q1, q2, q3⟩ := e3 i hi
  exact ⟨c', q1, q2, k i _ hi q3⟩

theorem Rep.len {w : World} {Z : Nat → Prop} : ∀ {s : Sh} {f : Fl} {x : s.ty} {cs : List Value} {B : Nat → Prop}, Rep w Z s f x cs B → cs.length = s.size
  | .unit, _, _, _, _, h => by simp only [Rep] at h; subst h; rfl
  | .int _, _, _, _, _, h => by simp only [Rep] at h; subst h; rfl
  | .bool, _, _, _, _, h => by simp only [Rep] at h; subst h; rfl
  | .str, _, _, _, _, h => by simp only [Rep] at h; subst h; rfl
  | .pr a b, _, _, _, _, h => by
    obtain ⟨c1, c2, B1, B2, rfl, _, _, _, h1, h2⟩ := h
    rw [List.length_append, h1.len, h2.len]; rfl
  | .sl e s, f, xs, cs, B, h => by
    cases f with
    | fz => obtain ⟨A, c, rfl, _⟩ := h; rfl
    | own => rcases h with ⟨A, rfl, _⟩ | ⟨g, cap, cur, rows, Bs, rfl, _⟩ <;> rfl
    | ownf => rcases h with ⟨A, rfl, _⟩ | ⟨g, cap, cur, rows, Bs, rfl, _⟩ <;> rfl
    | io n c => rw [h.2]; rfl
    | kz A c => rw [h.2]; rfl
    | junk => obtain ⟨v, rfl, _⟩ := h; rfl
    | pr => obtain ⟨v, rfl, _⟩ := h; rfl

theorem Rep.one {w : World} {Z : Nat → Prop} : ∀ {s : Sh} {f : Fl} {x : s.ty} {cs : List Value} {B : Nat → Prop}, Rep w Z s f x cs B → ∀ u ∈ cs, u.oneCell' = true
  | .unit, _, _, _, _, h => by simp only [Rep] at h; subst h; simp
  | .int _, _, _, _, _, h => by simp only [Rep] at h; subst h; simp [Value.oneCell']
  | .bool, _, _, _, _, h => by simp only [Rep] at h; subst h; simp [Value.oneCell']
  | .str, _, _, _, _, h => by simp only [Rep] at h; subst h; simp [Value.oneCell']
  | .pr a b, _, _, _, _, h => by
    obtain ⟨c1, c2, B1, B2, rfl, _, _, _, h1, h2⟩ := h
    intro u hu
    rcases List.mem_append.1 hu with hu | hu
    · exact h1.one u hu
    · exact h2.one u hu
  | .sl e s, f, xs, cs, B, h => by
    cases f with
    | fz => obtain ⟨A, c, rfl, _⟩ := h; simp [Value.oneCell']
    | own => rcases h with ⟨A, rfl, _⟩ | ⟨g, cap, cur, rows, Bs, rfl, _⟩ <;> simp [Value.oneCell']
    | ownf => rcases h with ⟨A, rfl, _⟩ | ⟨g, cap, cur, rows, Bs, rfl, _⟩ <;> simp [Value.oneCell']
    | io n c => rw [h.2]; simp [Value.oneCell']
    | kz A c => rw [h.2]; simp [Value.oneCell']
    | junk => obtain ⟨v, rfl, h1⟩ := h; simpa using h1
    | pr => obtain ⟨v, rfl, h1⟩ := h; simpa using h1

theorem Rep.mono {w : World} {Z : Nat → Prop} : ∀ {s : Sh} {f : Fl} {x : s.ty} {cs : List Value} {B B' : Nat → Prop}, (∀ b, B b → B' b) → Rep w Z s f x cs B → Rep w Z s f x cs B'
  | .unit, _, _, _, _, _, _, h => h
  | .int _, _, _, _, _, _, _, h => h
  | .bool, _, _, _, _, _, _, h => h
  | .str, _, _, _, _, _, _, h => h
  | .pr a b, _, _, _, _, _, k, h => by
    obtain ⟨c1, c2, B1, B2, e, h1, h2, h3, h4, h5⟩ := h
    exact ⟨c1, c2, B1, B2, e, fun n hn => k n (h1 n hn), fun n hn => k n (h2 n hn), h3, h4, h5⟩
  | .sl e s, f, xs, cs, B, B', k, h => by
    have aux : ∀ (R : s.ty → List Value → (Nat → Prop) → Prop), OwnR w e s.size R s.zero xs cs B → OwnR w e s.size R s.zero xs cs B' := by
      intro R h
      rcases h with h | ⟨g, cap, cur, rows, Bs, h1, h2, h3, h4, h5, h6, h7, h8⟩
      · exact .inl h
      · exact .inr ⟨g, cap, cur, rows, Bs, h1, h2, h3, h4, h5, k g h6, fun i hi => ⟨(h7 i hi).1, (h7 i hi).2.1, fun b hb => ⟨k b ((h7 i hi).2.2.1 b hb).1, ((h7 i hi).2.2.1 b hb).2⟩, (h7 i hi).2.2.2⟩, h8⟩
    cases f with
    | fz => exact h
    | own => exact aux _ h
    | ownf => exact aux _ h
    | io n c => exact ⟨aux _ h.1, h.2⟩
    | kz A c => exact h
    | junk => exact h
    | pr => exact h

/-- what represents a value depends on the blocks of the frozen zone and on its own blocks alone -/
theorem Rep.frame {w w' : World} {Z Z' : Nat → Prop} (hz : ∀ b, Z b → Z' b) : ∀ {s : Sh} {f : Fl} {x : s.ty} {cs : List Value} {B : Nat → Prop}, (∀ b, Z b ∨ B b → w'.heap[b]? = w.heap[b]?) → Rep w Z s f x cs B → Rep w' Z' s f x cs B
  | .unit, _, _, _, _, _, h => h
  | .int _, _, _, _, _, _, h => h
  | .bool, _, _, _, _, _, h => h
  | .str, _, _, _, _, _, h => h
  | .pr a b, _, _, _, _, k, h => by
    obtain ⟨c1, c2, B1, B2, e, h1, h2, h3, h4, h5⟩ := h
    exact ⟨c1, c2, B1, B2, e, h1, h2, h3, h4.frame hz (fun b hb => k b (hb.imp id (h1 b))), h5.frame hz (fun b hb => k b (hb.imp id (h2 b)))⟩
  | .sl e s, f, xs, cs, B, k, h => by
    have aux : ∀ f' : Fl, OwnR w e s.size (fun x c B' => Rep w Z s f' x c B') s.zero xs cs B → OwnR w' e s.size (fun x c B' => Rep w' Z' s f' x c B') s.zero xs cs B := by
      intro f' h
      rcases h with h | ⟨g, cap, cur, rows, Bs, h1, h2, h3, h4, h5, h6, h7, h8⟩
      · exact .inl h
      · exact .inr ⟨g, cap, cur, rows, Bs, h1, (k g (.inr h6)).trans h2, h3, h4, h5, h6, fun i hi => ⟨(h7 i hi).1, (h7 i hi).2.1, (h7 i hi).2.2.1, (h7 i hi).2.2.2.frame hz (fun b hb => k b (hb.imp id fun hb => ((h7 i hi).2.2.1 b hb).1))⟩, h8⟩
    have auxz : FzR w Z s.size (fun x c => Rep w Z s .fz x c (fun _ => False)) s.zero xs cs → FzR w' Z' s.size (fun x c => Rep w' Z' s .fz x c (fun _ => False)) s.zero xs cs := by
      intro h
      obtain ⟨A, c, h1, h2, h3, h4⟩ := h
      refine ⟨A, c, h1, h2, h3, fun hp => ?_⟩
      obtain ⟨ad, e1, e2, e3⟩ := h4 hp
      refine ⟨ad, e1, hz _ e2, fun i hi => ?_⟩
      obtain ⟨c', q1, q2, q3⟩ := e3 i hi
      refine ⟨c', q1, fun j hj => ?_, q3.frame hz (fun b hb => k b (hb.imp id False.elim))⟩
      rw [← q2 j hj]
      refine World.cell?_of_block ?_
      have hb : (ad.add (i * s.size + j)).block = ad.block := by unfold Addr.add; split <;> rfl
      rw [hb]
      exact k _ (.inl e2)
    cases f with
    | fz => exact auxz h
    | own => exact aux _ h
    | ownf => exact aux _ h
    | io n c => exact ⟨aux _ h.1, h.2⟩
    | kz A c => exact ⟨auxz h.1, h.2⟩
    | junk => exact h
    | pr => exact h

/-- of what has no slices nothing in memory is told -/
theorem Rep.plain {w w' : World} {Z Z' : Nat → Prop} : ∀ {s : Sh} {f f' : Fl} {x : s.ty} {cs : List Value} {B B' : Nat → Prop}, s.plain = true → Rep w Z s f x cs B → Rep w' Z' s f' x cs B'
  | .unit, _, _, _, _, _, _, _, h => h
  | .int _, _, _, _, _, _, _, _, h => h
  | .bool, _, _, _, _, _, _, _, h => h
  | .str, _, _, _, _, _, _, _, h => h
  | .pr a b, _, _, _, _, _, B', k, h => by
    obtain ⟨c1, c2, B1, B2, e, h1, h2, h3, h4, h5⟩ := h
    simp only [Sh.plain, Bool.and_eq_true] at k
    exact ⟨c1, c2, fun _ => False, fun _ => False, e, fun _ h => h.elim, fun _ h => h.elim, fun _ h _ => h, h4.plain k.1, h5.plain k.2⟩
  | .sl e s, f, _, xs, cs, B, _, k, h => by simp [Sh.plain] at k

theorem Rep.tojunk {w : World} {Z : Nat → Prop} : ∀ {s : Sh} {f : Fl} {x : s.ty} {cs : List Value} {B B' : Nat → Prop}, Rep w Z s f x cs B → Rep w Z s .junk x cs B'
  | .unit, _, _, _, _, _, h => h
  | .int _, _, _, _, _, _, h => h
  | .bool, _, _, _, _, _, h => h
  | .str, _, _, _, _, _, h => h
  | .pr a b, _, _, _, _, B', h => by
    obtain ⟨c1, c2, B1, B2, e, h1, h2, h3, h4, h5⟩ := h
    exact ⟨c1, c2, fun _ => False, fun _ => False, e, fun _ h => h.elim, fun _ h => h.elim, fun _ h _ => h, h4.tojunk, h5.tojunk⟩
  | .sl e s, f, xs, cs, B, B', h => by
    have hl := h.len
    have ho := h.one
    match cs, hl with
    | [v], _ => exact ⟨v, rfl, ho v List.mem_cons_self⟩

/-- every slice frozen: the flags are as good as fz -/
theorem Rep.allfz {w : World} {Z : Nat → Prop} : ∀ {s : Sh} {f : Fl} {x : s.ty} {cs : List Value} {B B' : Nat → Prop}, Fl.allfz s f = true → Rep w Z s f x cs B → Rep w Z s .fz x cs B'
  | .unit, _, _, _, _, _, _, h => h
  | .int _, _, _, _, _, _, _, h => h
  | .bool, _, _, _, _, _, _, h => h
  | .str, _, _, _, _, _, _, h => h
  | .pr a b, _, _, _, _, B', k, h => by
    obtain ⟨c1, c2, B1, B2, e, h1, h2, h3, h4, h5⟩ := h
    simp only [Fl.allfz, Bool.and_eq_true] at k
    exact ⟨c1, c2, fun _ => False, fun _ => False, e, fun _ h => h.elim, fun _ h => h.elim, fun _ h _ => h, h4.allfz k.1, h5.allfz k.2⟩
  | .sl e s, f, xs, cs, B, B', k, h => by
    cases f <;> simp [Fl.allfz] at k
    · exact h
    · exact h.1

theorem cell_row {w : World} {g : Nat} {cur : Array Value} {e : TypeId} {fr : Nat × Nat} (h : w.heap[g]? = some (.cells cur e fr)) (j : Nat) : w.cell? ((⟨g, 0, none⟩ : Addr).add j) = cur[j]? := by
  have ha : (⟨g, 0, none⟩ : Addr).add j = ⟨g, j, none⟩ := by unfold Addr.add; split <;> simp_all
  rw [ha]
  simp [World.cell?, h]

/-- no part is moved out -/
def Fl.sound : Sh → Fl → Bool
  | .sl _ _, f => match f with
    | .fz => true
    | .own => true
    | .ownf => true
    | .io _ _ => true
    | .kz _ _ => true
    | _ => false
  | .pr a b, f => Fl.sound a f.l && Fl.sound b f.r
  | _, _ => true
theorem Fl.sound_own : ∀ s : Sh, Fl.sound s .own = true
  | .unit => rfl
  | .int _ => rfl
  | .bool => rfl
  | .str => rfl
  | .sl _ _ => rfl
  | .pr a b => by simp only [Fl.sound, Fl.l, Fl.r, Fl.sound_own a, Fl.sound_own b, Bool.and_self]
theorem Fl.sound_fz : ∀ s : Sh, Fl.sound s .fz = true
  | .unit => rfl
  | .int _ => rfl
  | .bool => rfl
  | .str => rfl
  | .sl _ _ => rfl
  | .pr a b => by simp only [Fl.sound, Fl.l, Fl.r, Fl.sound_fz a, Fl.sound_fz b, Bool.and_self]

/-- one's own, lent: frozen, in a zone that holds its blocks -/
theorem Rep.freeze {w : World} {Z Z' : Nat → Prop} (hz : ∀ b, Z b → Z' b) : ∀ {s : Sh} {f : Fl} {x : s.ty} {cs : List Value} {B B' : Nat → Prop}, Fl.sound s f = true → (∀ b, B b → Z' b) → Rep w Z s f x cs B → Rep w Z' s .fz x cs B'
  | .unit, _, _, _, _, _, _, _, h => h
  | .int _, _, _, _, _, _, _, _, h => h
  | .bool, _, _, _, _, _, _, _, h => h
  | .str, _, _, _, _, _, _, _, h => h
  | .pr a b, _, _, _, _, B', k, hb, h => by
    obtain ⟨c1, c2, B1, B2, e, h1, h2, h3, h4, h5⟩ := h
    simp only [Fl.sound, Bool.and_eq_true] at k
    exact ⟨c1, c2, fun _ => False, fun _ => False, e, fun _ h => h.elim, fun _ h => h.elim, fun _ h _ => h, h4.freeze hz k.1 (fun b q => hb b (h1 b q)), h5.freeze hz k.2 (fun b q => hb b (h2 b q))⟩
  | .sl e s, f, xs, cs, B, B', k, hb, h => by
    have aux : ∀ f' : Fl, Fl.sound s f' = true → OwnR w e s.size (fun x c B' => Rep w Z s f' x c B') s.zero xs cs B → FzR w Z' s.size (fun x c => Rep w Z' s .fz x c (fun _ => False)) s.zero xs cs := by
      intro f' hf' h
      rcases h with ⟨A, rfl, rfl⟩ | ⟨g, cap, cur, rows, Bs, rfl, h2, h3, h4, h5, h6, h7, h8⟩
      · exact ⟨A, 0, rfl, Nat.le_refl _, Nat.zero_le _, fun h => absurd h (by simp)⟩
      · refine ⟨_, cap, rfl, h3, Nat.le_trans h3 h4, fun _ => ⟨_, rfl, hb g h6, fun i hi => ?_⟩⟩
        obtain ⟨q1, q2, q3, q4⟩ := h7 i hi
        refine ⟨rows i, q1, fun j hj => ?_, q4.freeze hz hf' (fun b hq => hb b (q3 b hq).1)⟩
        rw [cell_row h2, q2 j hj]
    cases f with
    | fz => exact h.frame (fun b hb => hz b hb) (fun _ _ => rfl)
    | own => exact aux _ (Fl.sound_own s) h
    | ownf => exact aux _ (Fl.sound_fz s) h
    | io n c => exact aux _ (Fl.sound_own s) h.1
    | kz A c => exact Rep.frame (s := .sl e s) (f := .fz) (fun b hb => hz b hb) (fun _ _ => rfl) h.1
    | junk => simp [Fl.sound] at k
    | pr => simp [Fl.sound] at k

/-- the zero value, no slice being more than nil -/
def Sh.encZ : Sh → List Value
  | .unit => []
  | .int k => [.int k 0]
  | .bool => [.bool false]
  | .str => [.string ByteArray.empty]
  | .sl _ _ => [.slice none 0 0]
  | .pr a b => a.encZ ++ b.encZ
theorem Rep.zero (w : World) (Z : Nat → Prop) : ∀ (s : Sh) (B : Nat → Prop), Rep w Z s .own s.zero s.encZ B
  | .unit, _ => rfl
  | .int _, _ => rfl
  | .bool, _ => rfl
  | .str, _ => rfl
  | .sl _ _, _ => .inl ⟨none, rfl, rfl⟩
  | .pr a b, _ => ⟨a.encZ, b.encZ, fun _ => False, fun _ => False, rfl, fun _ h => h.elim, fun _ h => h.elim, fun _ h _ => h, Rep.zero w Z a _, Rep.zero w Z b _⟩
end Go.Proofs.Yteeklekfafedcaa.V
