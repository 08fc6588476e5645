import Derived.Test.YtiagbkpggeglgaaRChk0
import Derived.Test.YtiagbkpggeglgaaRParts2
import Derived.Test.YtiagbkpggeglgaaProg
import Derived.BigRegion
import Derived.BigQuiet
import Derived.Deep.QuietTactic
import Derived.Deep.AppendLies
import Derived.ChangeAlike
import Derived.Outline
import Derived.WalkKit
import Derived.KernelRfl
import Derived.Deep.LoopGhost
import Derived.Deep.RegionLaw
import Derived.Test.YtiagbkpggeglgaaWMore
import Derived.Test.YtiagbkpggeglgaaWKept
import Derived.Test.YtiagbkpggeglgaaLSep
namespace Go.Proofs.Ytiagbkpggeglgaa.RS
open Go Go.RowKit Go.Proofs.YtiagbkpggeglgaaW.PrintWords Go.Proofs.YtiagbkpggeglgaaW.PrintLast Go.Proofs.YtiagbkpggeglgaaW.PrintMore Go.Proofs.Ytiagbkpggeglgaa.L Go.Proofs.Ytiagbkpggeglgaa.MR
set_option linter.unusedVariables false
set_option linter.unusedSimpArgs false
/-- What an analysis from ck on leaves to be read. -/
def AnS (w : World) (ck : Int) (rs : List Rc) (e : Ending) (w' : World) : Prop := ∃ (A : Option Addr) (c : Nat) (ts : List Tv) (B : Option Addr) (cB : Nat) (ds : List (Int × Int)), e = .returned (.tuple #[.agg #[.slice A ts.length c, .slice B ds.length cB, .int .i64 (fromL ((anaA ck rs).d.map (·.2)))], .bool true]) ∧
  (ts.map Tv.ab).Perm ((anaA ck rs).t.map (·.2)) ∧ ts.Pairwise (fun a b => a.tx ≤ b.tx) ∧ ds.Perm (anaA ck rs).d ∧ ds.Pairwise (fun a b => a.1 ≤ b.1) ∧ kdT.C w' A ts.length ts ∧ kdD.C w' B ds.length ds ∧ (∀ t ∈ ts, kdI.C w' t.A t.p.length t.p) ∧ Below w.heap.size w w'
theorem anaS (w : World) (ck : Int) (A : Option Addr) (c : Nat) (rs : List Rc) (hC : kdRc.C w A rs.length rs) (hcap : rs.length ≤ c) (hr : ∀ r ∈ rs, RcAt w r) (hl : rs.length < 900000) (hb1 : (anaA ck rs).t.length < 900000) (hb2 : (anaA ck rs).d.length < 900000) (hok : okA ck rs) (hts : 0 < ck → (rs.getD (ck.toNat - 1) default).ts.length < 900000) (hds : 0 < ck → (rs.getD (ck.toNat - 1) default).ds.length < 900000) :
    Calls Try.prog 9 #[.int .i64 ck, .slice A rs.length c] w (AnS w ck rs) := by
  refine (analyse_calls w ck A c rs hC hcap hr hl hb1 hb2 hok hts hds).mono ?_
  rintro e w' ⟨A', c', ts, B, cB, ds, rfl, h2, h3, h4, h5, o⟩
  obtain ⟨F0, hP⟩ := o.fact 0 rfl
  obtain ⟨F1, hT⟩ := o.fact 1 rfl
  obtain ⟨F2, hD⟩ := o.fact 2 rfl
  obtain ⟨_, _, e1, _, cT⟩ := RowAt.reads hT
  obtain ⟨_, _, e2, _, cD⟩ := RowAt.reads hD
  injection e1 with e1 _ e3
  injection e2 with e2 _ e4
  subst e1 e2
  exact ⟨A', c', ts, B, cB, ds, rfl, h2, h3, h4, h5, cT, cD, fun t ht => (hP.1 t ht).1, o.below⟩
/-- No pages that are too many. -/
def Small (t : List (Int × Tp)) : Prop := ∀ p ∈ t, p.2.p.length ≤ 17592186043904
theorem putP_mem {l : List (Int × Tp)} {k : Int} {v : Tp} {q : Int × Tp} (h : q ∈ putP l k v) : q = (k, v) ∨ q ∈ l := by
  unfold putP at h
  split at h
  · obtain ⟨p, hp, rfl⟩ := List.mem_map.1 h
    split
    · exact .inl rfl
    · exact .inr hp
  · rcases List.mem_append.1 h with h | h
    · exact .inr h
    · exact .inl (List.mem_singleton.1 h)
theorem getP_small {t : List (Int × Tp)} (h : Small t) (k : Int) : (getP t k).p.length ≤ 17592186043904 := by
  unfold getP
  cases hf : t.find? (fun p => decide (p.1 = k)) with
  | none => exact Nat.zero_le _
  | some p => exact h p (List.mem_of_find?_eq_some hf)
theorem Small.read {t : List (Int × Tp)} (h : Small t) (lsn : Int) (r : Rc) (hr : r.gs.length ≤ 17592186043904) : Small (readT t lsn r) := by
  unfold readT
  split
  · exact fun p hp => h p (List.mem_filter.1 hp).1
  · split
    · intro p hp
      rcases putP_mem hp with rfl | hp
      · exact hr
      · exact h p hp
    · split
      · intro p hp
        rcases putP_mem hp with rfl | hp
        · exact getP_small h _
        · exact h p hp
      · exact h
theorem Small.go : ∀ (l : List Rc) (s : Ab) (k : Int), Small s.t → (∀ r ∈ l, r.gs.length ≤ 17592186043904) → Small (goA s k l).t
  | [], _, _, h, _ => h
  | r :: l, s, k, h, hr => Small.go l (readA s (k + 1) r) (k + 1) (Small.read h _ r (hr r List.mem_cons_self)) (fun r' h' => hr r' (List.mem_cons_of_mem _ h'))
theorem Small.of_perm {ts : List Tv} {t : List (Int × Tp)} (h : Small t) (hp : (ts.map Tv.ab).Perm (t.map (·.2))) : ∀ x ∈ ts, x.p.length ≤ 17592186043904 := by
  intro x hx
  obtain ⟨p, hp2, he⟩ := List.mem_map.1 (hp.mem_iff.1 (List.mem_map.2 ⟨x, hx, rfl⟩))
  have := h p hp2
  rw [he] at this
  exact this
abbrev chkR (A : Option Addr) (c : Nat) (ts : List Tv) (B : Option Addr) (cB : Nat) (ds : List (Int × Int)) : Rc := ⟨7, 0, 0, 0, ⟨#[]⟩, false, ⟨#[]⟩, ⟨#[]⟩, 0, 0, none, 0, [], none, 0, [], A, c, ts, B, cB, ds⟩
theorem chk_at {W : World} {A B : Option Addr} {c cB : Nat} {ts : List Tv} {ds : List (Int × Int)} (hT : kdT.C W A ts.length ts) (hD : kdD.C W B ds.length ds) (hp : ∀ t ∈ ts, kdI.C W t.A t.p.length t.p) (hs : ∀ t ∈ ts, t.p.length ≤ 17592186043904) : RcAt W (chkR A c ts B cB ds) :=
  ⟨kdI_nil _ _, kd_nil _ _, hT, fun t ht => ⟨hp t ht, hs t ht⟩, hD, Nat.zero_le _, Nat.zero_lt_succ _⟩
theorem infoR : (Try.prog.info? 31).map (fun i => (i.zero, i.size, i.bytes)) = some (some (.agg #[.int .i64 0, .int .i64 0, .int .i64 0, .int .i64 0, .string ⟨#[]⟩, .bool false, .string ⟨#[]⟩, .string ⟨#[]⟩, .int .i64 0, .int .i64 0, .slice none 0 0, .slice none 0 0, .slice none 0 0, .slice none 0 0]), 14, 200) := by kernel_rfl
end Go.Proofs.Ytiagbkpggeglgaa.RS
