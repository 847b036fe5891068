/- Contracts' arguments that look otherwise: what is read need not be a row of its own. -/
import Derived.Test.YtijmbcnhkdhkeaaWa
set_option linter.unusedSimpArgs false
set_option linter.unusedVariables false
namespace Go.Ev
open Go Go.RowKit
def Look (a b : AV) : Prop := ∀ (C : Cx) (x : Value), Rep C true (.read .ent) a x → Rep C true (.read .ent) b x
theorem Look.refl (a : AV) : Look a a := fun _ _ h => h
def Looks : List AV → List AV → Prop
  | [], [] => True
  | a :: as, b :: bs => Look a b ∧ Looks as bs
  | _, _ => False
def LookEls : List (List AV) → List (List AV) → Prop
  | [], [] => True
  | a :: as, b :: bs => Looks a b ∧ LookEls as bs
  | _, _ => False
theorem Looks.len : ∀ {as bs : List AV}, Looks as bs → as.length = bs.length
  | [], [], _ => rfl
  | a :: as, b :: bs, h => by simp [Looks.len h.2]
  | [], _ :: _, h => h.elim
  | _ :: _, [], h => h.elim
theorem LookEls.len : ∀ {as bs : List (List AV)}, LookEls as bs → as.length = bs.length
  | [], [], _ => rfl
  | a :: as, b :: bs, h => by simp [LookEls.len h.2]
  | [], _ :: _, h => h.elim
  | _ :: _, [], h => h.elim
theorem RepVs.look {C : Cx} : ∀ {as bs : List AV} {vs : List Value} {q : Nat}, Looks as bs → RepVs C true (.read .ent) q as vs → RepVs C true (.read .ent) q bs vs
  | [], [], vs, q, _, h => h
  | a :: as, b :: bs, vs, q, hl, h => by
    obtain ⟨y, ys, rfl, h1, h2⟩ := h
    exact ⟨y, ys, rfl, hl.1 _ _ h1, RepVs.look hl.2 h2⟩
  | [], _ :: _, _, _, h, _ => h.elim
  | _ :: _, [], _, _, h, _ => h.elim
theorem RepCs.look {C : Cx} {b : Nat} : ∀ {as bs : List AV} {off q : Nat}, Looks as bs → RepCs C true (.read .ent) b off q as → RepCs C true (.read .ent) b off q bs
  | [], [], _, _, _, h => h
  | a :: as, c :: bs, off, q, hl, h => by
    obtain ⟨⟨y, h0, h1, h2⟩, h3⟩ := h
    exact ⟨⟨y, h0, h1, hl.1 _ _ h2⟩, RepCs.look hl.2 h3⟩
  | [], _ :: _, _, _, h, _ => h.elim
  | _ :: _, [], _, _, h, _ => h.elim
theorem RepEls.look {C : Cx} {b sz : Nat} : ∀ {as bs : List (List AV)} {off q : Nat}, LookEls as bs → RepEls C (.read .ent) b off q sz as → RepEls C (.read .ent) b off q sz bs
  | [], [], _, _, _, h => h
  | a :: as, c :: bs, off, q, hl, h => by
    obtain ⟨h1, h2, h3⟩ := h
    exact ⟨by rw [← Looks.len hl.1]; exact h1, RepCs.look hl.1 h2, RepEls.look hl.2 h3⟩
  | [], _ :: _, _, _, h, _ => h.elim
  | _ :: _, [], _, _, h, _ => h.elim
theorem Look.row {e sz : Nat} {as bs : List (List AV)} (h : LookEls as bs) : Look (.row e sz as) (.row e sz bs) := fun C x hr => by
  obtain ⟨ha, A, c, rfl, h1, h2, h3⟩ := hr
  have hl := h.len
  refine ⟨ha, A, c, by rw [hl], by omega, by omega, ?_⟩
  rcases h3 with h3 | ⟨b, off, h4, h5, h6⟩
  · left
    rw [h3] at hl
    exact List.eq_nil_of_length_eq_zero (by simpa using hl.symm)
  · exact .inr ⟨b, off, h4, h5, RepEls.look h h6⟩
theorem Look.rd (e sz : Nat) (els : List (List AV)) : Look (.rd .ent e sz els) (.row e sz els) := fun C x hr => by
  obtain ⟨_, _, A, c, rfl, h1, h2, h3⟩ := hr
  exact ⟨trivial, A, c, rfl, h1, h2, h3⟩
theorem Meets.look {P : Program} {f : FuncId} {as bs : List AV} {post : AV → Prop} (hl : Looks as bs) (h : Meets P f bs post) : Meets P f as post :=
  ⟨h.enters, fun w S F base vals hS hr => h.runs w S F base vals hS (hr.look hl)⟩
/-- Rows of bytes that are read, in a row. -/
def byE (bs : List UInt8) : List AV := [.rd .ent 5 1 (bytesA bs)]
def rowBE (xs : List (List UInt8)) : AV := .row 25 1 (ra byE xs)
theorem look_byE : ∀ xs : List (List UInt8), LookEls (ra byE xs) (ra byC xs)
  | [] => trivial
  | x :: xs => ⟨⟨Look.rd _ _ _, trivial⟩, look_byE xs⟩
theorem look_rowBE (xs : List (List UInt8)) : Look (rowBE xs) (rowBB xs) := Look.row (look_byE xs)
theorem byE_snoc (xs : List (List UInt8)) (b : List UInt8) : ra byE xs ++ [[.rd .ent 5 1 (bytesA b)]] = ra byE (xs ++ [b]) := by simp [ra, byE]
theorem byE_at {xs : List (List UInt8)} {i : Nat} (h : i < xs.length) : (ra byE xs)[i]? = some [.rd .ent 5 1 (bytesA xs[i])] := ra_at h
theorem byE_asrw (xs : List (List UInt8)) : (ra byC xs).map (List.map (AV.asrw .ent)) = ra byE xs := by simp [ra, byC, byE, AV.asrw, Org.base]
theorem nf_byE : ∀ xs : List (List UInt8), nfEls (ra byE xs)
  | [] => trivial
  | x :: xs => ⟨⟨⟨rfl, nf_bytes x⟩, trivial⟩, nf_byE xs⟩
where nf_bytes : ∀ bs : List UInt8, nfEls (bytesA bs)
  | [] => trivial
  | b :: bs => ⟨⟨trivial, trivial⟩, nf_bytes bs⟩
attribute [go_sem] byE_snoc rowBE
end Go.Ev
