/- The law on who rises (FnHeightsRise),a part of its walk: counts,first orders,means: the same. -/
import Derived.Test.YtleacijhpkogpadHGood
import Derived.Test.YtleacijhpkogpadHLawVR
import Derived.Test.YtleacijhpkogpadHRiseP
import Derived.Deep.DeepCutAuto
import Derived.Deep.CutRange
import Derived.Lib.OthersKept
import Derived.Deep.QuietTactic
import Derived.BigQuiet
import Derived.IntWalk
import Derived.Test.YtleacijhpkogpadHCBS
variable {A0 A3 A4 A5 A6 A7 A8 A9 Aa Ab Ac Ad Ae Af Ag Ah Ai Aj Ak Al Am An Ao Ap Aq Ar As At Au Av Aw Ax Ay Az B0 B1 B2 B3 B4 B5 B6 B7 B8 B9 Ba Bb Bc Bd Be Bf Bg Bh Bi Bj Bk Bl Bm Bn Bo Bp Bq Br Bs Bt Bu Bv Bw Bx By Bz C0 C1 C2 C7 C8 C9 Ca Cb Cc Cd Ce Cf Cg Ch Ci Cj Ck Cl Cm Cn Co Cp Cq Cr Cs Ct Cu Cv Cw Cx Cy Cz D0 D1 D2 D3 D4 D5 D6 D7 D8 D9 Da Db Dc Dd De Df Dg Dh Di Dj Dk Dl Dm Dn Do Dp Dq Dr Ds Dt Du Dv Dw Dx Dy Dz E0 E1 E4 E5 E6 E7 E8 E9 Ea Eb Ec Ed Ee Ef Eg Eh Ei Ej Ek El Em En Eo Ep Er Es Et Eu Ev Ew Ex Ey Ez F0 F1 F2 F3 F4 F5 F6 F7 F8 F9 Fa Fb Fc Fd Fe Ff Fg Fh Fi Fj Fk Fl Fm Fn Fo Fp Fq Fr Fs Ft Fu Fv Fw Fx Fy Fz G0 G1 G2 G3 G4 G5 G6 G7 G8 G9 Ga Gb Gc Gd Ge Gf Gg Gh Gi Gj Gk Gl Gm Gn Gp Gq Gr Gs Gt Gu Gv Gw Gx Gy Gz H1 H2 H3 H4 H5 H6 H7 H8 H9 Ha Hb Hc Hd He Hf Hg Hh Hi Hj Hk Hl Hm Hn Ho Hp Hq Hr Hs Ht Hu Hv Hw Hx Hy Hz I0 I1 I2 I3 I4 I5 I6 I7 I8 I9 Ia Ib Ic Ie If Ig Ih Ii Ij Ik Il Im In Io Ip Iq Ir Is It Iu Iv Iw Ix Iy Iz J0 J1 J2 J3 J4 J5 J6 J7 J8 J9 Ja Jb Jc Jd Je Jf Jg Jh Ji Jj Jk Jl Jm Jn Jo Jp Jq Jr Js Jt Ju Jv Jw Jx Jy Jz K0 K1 K3 K4 K5 K6 K7 K8 K9 Ka Kb Kc Ke Kf Kg Kh Ki Kj Kk Kl Km Kn Ko Kp Kq Kr Ks Kt Ku Kv Kw Kx Ky Kz L0 L1 L2 L3 L4 L5 L6 L7 L8 L9 La Lb Lc Ld Le Lf Lg Lh Li Lj Lk Ll Lm Ln Lo Lp Lq Lr Ls Lt Lu Lv Lw Lx Ly Lz M0 M1 M2 M3 M4 M5 M6 M7 M8 M9 Ma Mb Mc Md Me Mf Mg Mh Mi Mj Mk Ml Mm Mn Mo Mp Mq Mr Ms Mt Mu Mv Mw Mx My Mz N0 N1 N2 N3 N4 N5 N6 N7 N8 N9 Na Nb Nc Nd Nf Ng Nh Ni Nj Nk Nl Nm Nn No Np Nq Nr Ns Nt Nu Nv Nw Nx Ny Nz O0 O1 O2 O3 O4 O5 O6 O7 O8 O9 Oa Ob Oc Od Oe Of Og Oh Oi Oj Ok Ol Om On Oo Op Oq Os Ot Ou Ov Ow Ox Oy Oz Pa Pb Pc Pd Pe Pf Pg Ph Pi Pj Pk Pl Pm Pn Po Pp Pq Pr Ps Pt : Go.Value}
set_option linter.unusedVariables false
set_option linter.unusedSimpArgs false
set_option maxHeartbeats 8000000
set_option maxRecDepth 1000000
namespace Go.Proofs.Ytleacijhpkogpad.HBigU
open Go.RowKit YtleacijhpkogpadW.PrintWords YtleacijhpkogpadW.PrintLast YtleacijhpkogpadW.PrintMore Part HImpl

theorem part47 (fi : List Int) (ct nu de : Int) (q1 q2 q3 : Bool) (AF AG : Option Addr) (cF cG : Nat) (wb : World) (wr : World)
    (HB : Aside0 (Below wb.heap.size wb wr))
    (S1 : Aside0 (∀ W,Below wb.heap.size wb W → Calls Try.prog 17 #[.slice AF fi.length cF,.slice AG fi.length cG] W fun e w' => e = .returned (.bool true) ∧ Drawn0 W w'))
    (Q' : Exit → Act → World → Prop) (K' : Act → World → Prop)
    (hK : ∀ ⦃u387 u388 u389 u390 u391 u392 u393 u394 u395 u396 u397 u398 u399 u400 u401 u402 u403 u404 u405 u406 u407 u408 u409 u410 u411 u412 u413 u414 u415 u416 u417 u418 u419 u420 : Value⦄ ⦃w' : World⦄,u420 = .bool false → Aside0 (Below wb.heap.size wb w') → K' ⟨#[Aa,Ab,Ac,Ad,Ae,Af,Ag,Ah,Ai,Aj,Ak,Al,Am,An,Ao,Ap,Aq,Ar,As,At,Au,Av,Aw,Ax,Ay,Az,A0,A3,A4,A5,A6,A7,A8,A9,Ba,Bb,Bc,Bd,Be,Bf,.int .i64 ct,.bool q1,.int .i64 ct,.bool q1,Bk,Bl,Bm,.slice AF fi.length cF,.bool q2,.slice AG fi.length cG,.bool q2,Br,.int .i64 nu,.int .i64 de,.bool q3,.int .i64 nu,.int .i64 de,.bool q3,By,Bz,B0,B1,B2,B3,B4,B5,B6,B7,B8,B9,Ca,Cb,Cc,Cd,Ce,Cf,Cg,Ch,Ci,Cj,Ck,Cl,Cm,Cn,Co,Cp,Cq,Cr,Cs,Ct,Cu,Cv,Cw,Cx,Cy,Cz,C0,C1,C2,C7,C8,C9,Da,Db,Dc,Dd,De,Df,Dg,Dh,Di,Dj,Dk,Dl,Dm,Dn,Do,Dp,Dq,Dr,Ds,Dt,Du,Dv,Dw,Dx,Dy,Dz,D0,D1,D2,D3,D4,D5,D6,D7,D8,D9,Ea,Eb,Ec,Ed,Ee,Ef,Eg,Eh,Ei,Ej,Ek,El,Em,En,Eo,Ep,Er,Es,Et,Eu,Ev,Ew,Ex,Ey,Ez,E0,E1,E4,E5,E6,E7,E8,E9,Fa,Fb,Fc,Fd,Fe,Ff,Fg,Fh,Fi,Fj,Fk,Fl,Fm,Fn,Fo,Fp,Fq,Fr,Fs,Ft,Fu,Fv,Fw,Fx,Fy,Fz,F0,F1,F2,F3,F4,F5,F6,F7,F8,F9,Ga,Gb,Gc,Gd,Ge,Gf,Gg,Gh,Gi,Gj,Gk,Gl,Gm,Gn,Gp,Gq,Gr,Gs,Gt,Gu,Gv,Gw,Gx,Gy,Gz,G0,G1,G2,G3,G4,G5,G6,G7,G8,G9,Ha,Hb,Hc,Hd,He,Hf,Hg,Hh,Hi,Hj,Hk,Hl,Hm,Hn,Ho,Hp,Hq,Hr,Hs,Ht,Hu,Hv,Hw,Hx,Hy,Hz,H1,H2,H3,H4,H5,H6,H7,H8,H9,Ia,Ib,Ic,Ie,If,Ig,Ih,Ii,Ij,Ik,Il,Im,In,Io,Ip,Iq,Ir,Is,It,Iu,Iv,Iw,Ix,Iy,Iz,I0,I1,I2,I3,I4,I5,I6,I7,I8,I9,Ja,Jb,Jc,Jd,Je,Jf,Jg,Jh,Ji,Jj,Jk,Jl,Jm,Jn,Jo,Jp,Jq,Jr,Js,Jt,Ju,Jv,Jw,Jx,Jy,Jz,J0,J1,J2,J3,J4,J5,J6,J7,J8,J9,Ka,Kb,Kc,Ke,Kf,Kg,Kh,Ki,Kj,Kk,Kl,Km,Kn,Ko,Kp,Kq,Kr,Ks,Kt,Ku,Kv,Kw,Kx,Ky,Kz,K0,K1,K3,K4,K5,K6,K7,K8,K9,La,Lb,Lc,Ld,Le,u387,u388,u389,u390,u391,u392,u393,u394,u395,u396,u397,u398,u399,u400,u401,u402,u403,u404,u405,u406,u407,u408,u409,u410,u411,u412,u413,u414,u415,u416,u417,u418,u419,u420,Md,Me,Mf,Mg,Mh,Mi,Mj,Mk,Ml,Mm,Mn,Mo,Mp,Mq,Mr,Ms,Mt,Mu,Mv,Mw,Mx,My,Mz,M0,M1,M2,M3,M4,M5,M6,M7,M8,M9,Na,Nb,Nc,Nd,Nf,Ng,Nh,Ni,Nj,Nk,Nl,Nm,Nn,No,Np,Nq,Nr,Ns,Nt,Nu,Nv,Nw,Nx,Ny,Nz,N0,N1,N2,N3,N4,N5,N6,N7,N8,N9,Oa,Ob,Oc,Od,Oe,Of,Og,Oh,Oi,Oj,Ok,Ol,Om,On,Oo,Op,Oq,Os,Ot,Ou,Ov,Ow,Ox,Oy,Oz,O0,O1,O2,O3,O4,O5,O6,O7,O8,O9,Pa,Pb,Pc,Pd,Pe,Pf,Pg,Ph,Pi,Pj,Pk,Pl,Pm,Pn,Po,Pp,Pq,Pr,Ps,Pt],[]⟩ w') :
    Code.wp Try.prog (regOf Try.f4 51) (Exit.then K' Q') ⟨#[Aa,Ab,Ac,Ad,Ae,Af,Ag,Ah,Ai,Aj,Ak,Al,Am,An,Ao,Ap,Aq,Ar,As,At,Au,Av,Aw,Ax,Ay,Az,A0,A3,A4,A5,A6,A7,A8,A9,Ba,Bb,Bc,Bd,Be,Bf,.int .i64 ct,.bool q1,.int .i64 ct,.bool q1,Bk,Bl,Bm,.slice AF fi.length cF,.bool q2,.slice AG fi.length cG,.bool q2,Br,.int .i64 nu,.int .i64 de,.bool q3,.int .i64 nu,.int .i64 de,.bool q3,By,Bz,B0,B1,B2,B3,B4,B5,B6,B7,B8,B9,Ca,Cb,Cc,Cd,Ce,Cf,Cg,Ch,Ci,Cj,Ck,Cl,Cm,Cn,Co,Cp,Cq,Cr,Cs,Ct,Cu,Cv,Cw,Cx,Cy,Cz,C0,C1,C2,C7,C8,C9,Da,Db,Dc,Dd,De,Df,Dg,Dh,Di,Dj,Dk,Dl,Dm,Dn,Do,Dp,Dq,Dr,Ds,Dt,Du,Dv,Dw,Dx,Dy,Dz,D0,D1,D2,D3,D4,D5,D6,D7,D8,D9,Ea,Eb,Ec,Ed,Ee,Ef,Eg,Eh,Ei,Ej,Ek,El,Em,En,Eo,Ep,Er,Es,Et,Eu,Ev,Ew,Ex,Ey,Ez,E0,E1,E4,E5,E6,E7,E8,E9,Fa,Fb,Fc,Fd,Fe,Ff,Fg,Fh,Fi,Fj,Fk,Fl,Fm,Fn,Fo,Fp,Fq,Fr,Fs,Ft,Fu,Fv,Fw,Fx,Fy,Fz,F0,F1,F2,F3,F4,F5,F6,F7,F8,F9,Ga,Gb,Gc,Gd,Ge,Gf,Gg,Gh,Gi,Gj,Gk,Gl,Gm,Gn,Gp,Gq,Gr,Gs,Gt,Gu,Gv,Gw,Gx,Gy,Gz,G0,G1,G2,G3,G4,G5,G6,G7,G8,G9,Ha,Hb,Hc,Hd,He,Hf,Hg,Hh,Hi,Hj,Hk,Hl,Hm,Hn,Ho,Hp,Hq,Hr,Hs,Ht,Hu,Hv,Hw,Hx,Hy,Hz,H1,H2,H3,H4,H5,H6,H7,H8,H9,Ia,Ib,Ic,Ie,If,Ig,Ih,Ii,Ij,Ik,Il,Im,In,Io,Ip,Iq,Ir,Is,It,Iu,Iv,Iw,Ix,Iy,Iz,I0,I1,I2,I3,I4,I5,I6,I7,I8,I9,Ja,Jb,Jc,Jd,Je,Jf,Jg,Jh,Ji,Jj,Jk,Jl,Jm,Jn,Jo,Jp,Jq,Jr,Js,Jt,Ju,Jv,Jw,Jx,Jy,Jz,J0,J1,J2,J3,J4,J5,J6,J7,J8,J9,Ka,Kb,Kc,Ke,Kf,Kg,Kh,Ki,Kj,Kk,Kl,Km,Kn,Ko,Kp,Kq,Kr,Ks,Kt,Ku,Kv,Kw,Kx,Ky,Kz,K0,K1,K3,K4,K5,K6,K7,K8,K9,La,Lb,Lc,Ld,Le,Lf,Lg,Lh,Li,Lj,Lk,Ll,Lm,Ln,Lo,Lp,Lq,Lr,Ls,Lt,Lu,Lv,Lw,Lx,Ly,Lz,L0,L1,L2,L3,L4,L5,L6,L7,L8,L9,Ma,Mb,Mc,Md,Me,Mf,Mg,Mh,Mi,Mj,Mk,Ml,Mm,Mn,Mo,Mp,Mq,Mr,Ms,Mt,Mu,Mv,Mw,Mx,My,Mz,M0,M1,M2,M3,M4,M5,M6,M7,M8,M9,Na,Nb,Nc,Nd,Nf,Ng,Nh,Ni,Nj,Nk,Nl,Nm,Nn,No,Np,Nq,Nr,Ns,Nt,Nu,Nv,Nw,Nx,Ny,Nz,N0,N1,N2,N3,N4,N5,N6,N7,N8,N9,Oa,Ob,Oc,Od,Oe,Of,Og,Oh,Oi,Oj,Ok,Ol,Om,On,Oo,Op,Oq,Os,Ot,Ou,Ov,Ow,Ox,Oy,Oz,O0,O1,O2,O3,O4,O5,O6,O7,O8,O9,Pa,Pb,Pc,Pd,Pe,Pf,Pg,Ph,Pi,Pj,Pk,Pl,Pm,Pn,Po,Pp,Pq,Pr,Ps,Pt],[]⟩ wr := by
  conv => arg 2; whnf
  have HKK := Aside0.mk hK
  clear hK
  cases q1 <;> cases q2 <;> cases q3 <;> (go_wp2_with (go_at_call 17; with_reducible refine (S1.out _ (by repeat first|(with_reducible first|exact HB.out|apply below_alloc|apply pw_below_drewN|apply below_drew1)|exact HB.out)).mono ?_; rintro e w1 ⟨rfl,⟨nd1,rfl⟩⟩; try dsimp only); exact HKK.out rfl ⟨(by repeat first|(with_reducible first|exact HB.out|apply below_alloc|apply pw_below_drewN|apply below_drew1)|exact HB.out)⟩)
theorem partN (m lf bh ct : Int) (wb : World) (wr : World)
    (HB : Aside0 (Below wb.heap.size wb wr))
    (C3 : Aside0 (∀ W,Below wb.heap.size wb W → Calls Try.prog 44 #[.int .i64 m,.int .i64 bh,.int .i64 lf] W fun e w' => e = .returned (.tuple #[.int .i64 ct,.bool true]) ∧ Drawn0 W w'))
    (Q' : Exit → Act → World → Prop) (K' : Act → World → Prop)
    (hK : ∀ ⦃Pu Pv Pw Qc Qd Qe Qf Qg Qh Qi Qj Qk Ql Qm Qn Qo Qp : Value⦄ ⦃w' : World⦄,Aside0 (Below wb.heap.size wb w') → K' ⟨#[Aa,Ab,Ac,Ad,Pu,Af,Ag,Ah,Ai,Aj,Ak,Al,Am,An,Ao,Ap,Aq,Ar,As,At,Au,Av,Aw,Ax,Ay,Az,A0,A3,A4,A5,A6,A7,A8,A9,Ba,Bb,Bc,.int .i64 m,.int .i64 lf,.int .i64 bh,.int .i64 ct,Bh,Bi,Bj,Bk,Bl,Bm,Bn,Bo,Bp,Bq,Br,Bs,Bt,Bu,Bv,Bw,Bx,Pv,Pw,B0,B1,B2,B3,B4,B5,B6,B7,B8,B9,Ca,Cb,Cc,Cd,Ce,Cf,Cg,Ch,Ci,Cj,Ck,Cl,Cm,Cn,Co,Cp,Cq,Cr,Cs,Ct,Cu,Cv,Cw,Cx,Cy,Cz,C0,C1,C2,C7,C8,C9,Da,Db,Dc,Dd,De,Df,Dg,Dh,Di,Dj,Dk,Dl,Dm,Dn,Do,Dp,Dq,Dr,Ds,Dt,Du,Dv,Dw,Dx,Dy,Dz,D0,D1,D2,D3,D4,D5,D6,D7,D8,D9,Ea,Eb,Ec,Ed,Ee,Ef,Eg,Eh,Ei,Ej,Ek,El,Em,En,Eo,Ep,Er,Es,Et,Eu,Ev,Ew,Ex,Ey,Ez,E0,E1,E4,E5,E6,E7,E8,E9,Fa,Fb,Fc,Fd,Fe,Ff,Fg,Fh,Fi,Fj,Fk,Fl,Fm,Fn,Fo,Fp,Fq,Fr,Fs,Ft,Fu,Fv,Fw,Fx,Fy,Fz,F0,F1,F2,F3,F4,F5,F6,F7,F8,F9,Ga,Gb,Gc,Gd,Ge,Gf,Gg,Gh,Gi,Gj,Gk,Gl,Gm,Gn,Gp,Gq,Gr,Gs,Gt,Gu,Gv,Gw,Gx,Gy,Gz,G0,G1,G2,G3,G4,G5,G6,G7,G8,G9,Ha,Hb,Hc,Hd,He,Hf,Hg,Hh,Hi,Hj,Hk,Hl,Hm,Hn,Ho,Hp,Hq,Hr,Hs,Ht,Hu,Hv,Hw,Hx,Hy,Hz,H1,H2,H3,H4,H5,H6,H7,H8,H9,Ia,Ib,Ic,Ie,If,Ig,Ih,Ii,Ij,Ik,Il,Im,In,Io,Ip,Iq,Ir,Is,It,Iu,Iv,Iw,Ix,Iy,Iz,I0,I1,I2,I3,I4,I5,I6,I7,I8,I9,Ja,Jb,Jc,Jd,Je,Jf,Jg,Jh,Ji,Jj,Jk,Jl,Jm,Jn,Jo,Jp,Jq,Jr,Js,Jt,Ju,Jv,Jw,Jx,Jy,Jz,J0,J1,J2,J3,J4,J5,J6,J7,J8,J9,Ka,Kb,Kc,Ke,Kf,Kg,Kh,Ki,Kj,Kk,Kl,Km,Kn,Ko,Kp,Kq,Kr,Ks,Kt,Ku,Kv,Kw,Kx,Ky,Kz,K0,K1,K3,K4,K5,K6,K7,K8,K9,La,Lb,Lc,Ld,Le,Lf,Lg,Lh,Li,Lj,Lk,Ll,Lm,Ln,Lo,Lp,Lq,Lr,Ls,Lt,Lu,Lv,Lw,Lx,Ly,Lz,L0,L1,L2,L3,L4,L5,L6,L7,L8,L9,Ma,Mb,Mc,.bool true,Qc,Qd,Qe,Qf,Qg,Qh,Qi,Qj,Qk,Ql,Qm,Qn,Qo,Qp,Ms,Mt,Mu,Mv,Mw,Mx,My,Mz,M0,M1,M2,M3,M4,M5,M6,M7,M8,M9,Na,Nb,Nc,Nd,Nf,Ng,Nh,Ni,Nj,Nk,Nl,Nm,Nn,No,Np,Nq,Nr,Ns,Nt,Nu,Nv,Nw,Nx,Ny,Nz,N0,N1,N2,N3,N4,N5,N6,N7,N8,N9,Oa,Ob,Oc,Od,Oe,Of,Og,Oh,Oi,Oj,Ok,Ol,Om,On,Oo,Op,Oq,Os,Ot,Ou,Ov,Ow,Ox,Oy,Oz,O0,O1,O2,O3,O4,O5,O6,O7,O8,O9,Pa,Pb,Pc,Pd,Pe,Pf,Pg,Ph,Pi,Pj,Pk,Pl,Pm,Pn,Po,Pp,Pq,Pr,Ps,Pt],[]⟩ w') :
    Code.wp Try.prog (condOf Try.f4 421) (Exit.then K' Q') ⟨#[Aa,Ab,Ac,Ad,Ae,Af,Ag,Ah,Ai,Aj,Ak,Al,Am,An,Ao,Ap,Aq,Ar,As,At,Au,Av,Aw,Ax,Ay,Az,A0,A3,A4,A5,A6,A7,A8,A9,Ba,Bb,Bc,.int .i64 m,.int .i64 lf,.int .i64 bh,.int .i64 ct,Bh,Bi,Bj,Bk,Bl,Bm,Bn,Bo,Bp,Bq,Br,Bs,Bt,Bu,Bv,Bw,Bx,By,Bz,B0,B1,B2,B3,B4,B5,B6,B7,B8,B9,Ca,Cb,Cc,Cd,Ce,Cf,Cg,Ch,Ci,Cj,Ck,Cl,Cm,Cn,Co,Cp,Cq,Cr,Cs,Ct,Cu,Cv,Cw,Cx,Cy,Cz,C0,C1,C2,C7,C8,C9,Da,Db,Dc,Dd,De,Df,Dg,Dh,Di,Dj,Dk,Dl,Dm,Dn,Do,Dp,Dq,Dr,Ds,Dt,Du,Dv,Dw,Dx,Dy,Dz,D0,D1,D2,D3,D4,D5,D6,D7,D8,D9,Ea,Eb,Ec,Ed,Ee,Ef,Eg,Eh,Ei,Ej,Ek,El,Em,En,Eo,Ep,Er,Es,Et,Eu,Ev,Ew,Ex,Ey,Ez,E0,E1,E4,E5,E6,E7,E8,E9,Fa,Fb,Fc,Fd,Fe,Ff,Fg,Fh,Fi,Fj,Fk,Fl,Fm,Fn,Fo,Fp,Fq,Fr,Fs,Ft,Fu,Fv,Fw,Fx,Fy,Fz,F0,F1,F2,F3,F4,F5,F6,F7,F8,F9,Ga,Gb,Gc,Gd,Ge,Gf,Gg,Gh,Gi,Gj,Gk,Gl,Gm,Gn,Gp,Gq,Gr,Gs,Gt,Gu,Gv,Gw,Gx,Gy,Gz,G0,G1,G2,G3,G4,G5,G6,G7,G8,G9,Ha,Hb,Hc,Hd,He,Hf,Hg,Hh,Hi,Hj,Hk,Hl,Hm,Hn,Ho,Hp,Hq,Hr,Hs,Ht,Hu,Hv,Hw,Hx,Hy,Hz,H1,H2,H3,H4,H5,H6,H7,H8,H9,Ia,Ib,Ic,Ie,If,Ig,Ih,Ii,Ij,Ik,Il,Im,In,Io,Ip,Iq,Ir,Is,It,Iu,Iv,Iw,Ix,Iy,Iz,I0,I1,I2,I3,I4,I5,I6,I7,I8,I9,Ja,Jb,Jc,Jd,Je,Jf,Jg,Jh,Ji,Jj,Jk,Jl,Jm,Jn,Jo,Jp,Jq,Jr,Js,Jt,Ju,Jv,Jw,Jx,Jy,Jz,J0,J1,J2,J3,J4,J5,J6,J7,J8,J9,Ka,Kb,Kc,Ke,Kf,Kg,Kh,Ki,Kj,Kk,Kl,Km,Kn,Ko,Kp,Kq,Kr,Ks,Kt,Ku,Kv,Kw,Kx,Ky,Kz,K0,K1,K3,K4,K5,K6,K7,K8,K9,La,Lb,Lc,Ld,Le,Lf,Lg,Lh,Li,Lj,Lk,Ll,Lm,Ln,Lo,Lp,Lq,Lr,Ls,Lt,Lu,Lv,Lw,Lx,Ly,Lz,L0,L1,L2,L3,L4,L5,L6,L7,L8,L9,Ma,Mb,Mc,.bool true,Me,Mf,Mg,Mh,Mi,Mj,Mk,Ml,Mm,Mn,Mo,Mp,Mq,Mr,Ms,Mt,Mu,Mv,Mw,Mx,My,Mz,M0,M1,M2,M3,M4,M5,M6,M7,M8,M9,Na,Nb,Nc,Nd,Nf,Ng,Nh,Ni,Nj,Nk,Nl,Nm,Nn,No,Np,Nq,Nr,Ns,Nt,Nu,Nv,Nw,Nx,Ny,Nz,N0,N1,N2,N3,N4,N5,N6,N7,N8,N9,Oa,Ob,Oc,Od,Oe,Of,Og,Oh,Oi,Oj,Ok,Ol,Om,On,Oo,Op,Oq,Os,Ot,Ou,Ov,Ow,Ox,Oy,Oz,O0,O1,O2,O3,O4,O5,O6,O7,O8,O9,Pa,Pb,Pc,Pd,Pe,Pf,Pg,Ph,Pi,Pj,Pk,Pl,Pm,Pn,Po,Pp,Pq,Pr,Ps,Pt],[]⟩ wr := by
  conv => arg 2; whnf
  have HKK := Aside0.mk hK
  clear hK
  go_wp2_with (go_at_call 44; with_reducible refine (C3.out _ (by repeat first|(with_reducible first|exact HB.out|apply below_alloc|apply pw_below_drewN|apply below_drew1)|exact HB.out)).mono ?_; rintro e w1 ⟨rfl,⟨nd1,rfl⟩⟩; try dsimp only)
  exact HKK.out ⟨(by repeat first|(with_reducible first|exact HB.out|apply below_alloc|apply pw_below_drewN|apply below_drew1)|exact HB.out)⟩
theorem partN_no (wb : World) (wr : World)
    (HB : Aside0 (Below wb.heap.size wb wr))
    (Q' : Exit → Act → World → Prop) (K' : Act → World → Prop)
    (hK : ∀ ⦃Pu Pv Pw Qc Qd Qe Qf Qg Qh Qi Qj Qk Ql Qm Qn Qo Qp : Value⦄ ⦃w' : World⦄,Aside0 (Below wb.heap.size wb w') → K' ⟨#[Aa,Ab,Ac,Ad,Pu,Af,Ag,Ah,Ai,Aj,Ak,Al,Am,An,Ao,Ap,Aq,Ar,As,At,Au,Av,Aw,Ax,Ay,Az,A0,A3,A4,A5,A6,A7,A8,A9,Ba,Bb,Bc,Bd,Be,Bf,Bg,Bh,Bi,Bj,Bk,Bl,Bm,Bn,Bo,Bp,Bq,Br,Bs,Bt,Bu,Bv,Bw,Bx,Pv,Pw,B0,B1,B2,B3,B4,B5,B6,B7,B8,B9,Ca,Cb,Cc,Cd,Ce,Cf,Cg,Ch,Ci,Cj,Ck,Cl,Cm,Cn,Co,Cp,Cq,Cr,Cs,Ct,Cu,Cv,Cw,Cx,Cy,Cz,C0,C1,C2,C7,C8,C9,Da,Db,Dc,Dd,De,Df,Dg,Dh,Di,Dj,Dk,Dl,Dm,Dn,Do,Dp,Dq,Dr,Ds,Dt,Du,Dv,Dw,Dx,Dy,Dz,D0,D1,D2,D3,D4,D5,D6,D7,D8,D9,Ea,Eb,Ec,Ed,Ee,Ef,Eg,Eh,Ei,Ej,Ek,El,Em,En,Eo,Ep,Er,Es,Et,Eu,Ev,Ew,Ex,Ey,Ez,E0,E1,E4,E5,E6,E7,E8,E9,Fa,Fb,Fc,Fd,Fe,Ff,Fg,Fh,Fi,Fj,Fk,Fl,Fm,Fn,Fo,Fp,Fq,Fr,Fs,Ft,Fu,Fv,Fw,Fx,Fy,Fz,F0,F1,F2,F3,F4,F5,F6,F7,F8,F9,Ga,Gb,Gc,Gd,Ge,Gf,Gg,Gh,Gi,Gj,Gk,Gl,Gm,Gn,Gp,Gq,Gr,Gs,Gt,Gu,Gv,Gw,Gx,Gy,Gz,G0,G1,G2,G3,G4,G5,G6,G7,G8,G9,Ha,Hb,Hc,Hd,He,Hf,Hg,Hh,Hi,Hj,Hk,Hl,Hm,Hn,Ho,Hp,Hq,Hr,Hs,Ht,Hu,Hv,Hw,Hx,Hy,Hz,H1,H2,H3,H4,H5,H6,H7,H8,H9,Ia,Ib,Ic,Ie,If,Ig,Ih,Ii,Ij,Ik,Il,Im,In,Io,Ip,Iq,Ir,Is,It,Iu,Iv,Iw,Ix,Iy,Iz,I0,I1,I2,I3,I4,I5,I6,I7,I8,I9,Ja,Jb,Jc,Jd,Je,Jf,Jg,Jh,Ji,Jj,Jk,Jl,Jm,Jn,Jo,Jp,Jq,Jr,Js,Jt,Ju,Jv,Jw,Jx,Jy,Jz,J0,J1,J2,J3,J4,J5,J6,J7,J8,J9,Ka,Kb,Kc,Ke,Kf,Kg,Kh,Ki,Kj,Kk,Kl,Km,Kn,Ko,Kp,Kq,Kr,Ks,Kt,Ku,Kv,Kw,Kx,Ky,Kz,K0,K1,K3,K4,K5,K6,K7,K8,K9,La,Lb,Lc,Ld,Le,Lf,Lg,Lh,Li,Lj,Lk,Ll,Lm,Ln,Lo,Lp,Lq,Lr,Ls,Lt,Lu,Lv,Lw,Lx,Ly,Lz,L0,L1,L2,L3,L4,L5,L6,L7,L8,L9,Ma,Mb,Mc,.bool false,Qc,Qd,Qe,Qf,Qg,Qh,Qi,Qj,Qk,Ql,Qm,Qn,Qo,Qp,Ms,Mt,Mu,Mv,Mw,Mx,My,Mz,M0,M1,M2,M3,M4,M5,M6,M7,M8,M9,Na,Nb,Nc,Nd,Nf,Ng,Nh,Ni,Nj,Nk,Nl,Nm,Nn,No,Np,Nq,Nr,Ns,Nt,Nu,Nv,Nw,Nx,Ny,Nz,N0,N1,N2,N3,N4,N5,N6,N7,N8,N9,Oa,Ob,Oc,Od,Oe,Of,Og,Oh,Oi,Oj,Ok,Ol,Om,On,Oo,Op,Oq,Os,Ot,Ou,Ov,Ow,Ox,Oy,Oz,O0,O1,O2,O3,O4,O5,O6,O7,O8,O9,Pa,Pb,Pc,Pd,Pe,Pf,Pg,Ph,Pi,Pj,Pk,Pl,Pm,Pn,Po,Pp,Pq,Pr,Ps,Pt],[]⟩ w') :
    Code.wp Try.prog (condOf Try.f4 421) (Exit.then K' Q') ⟨#[Aa,Ab,Ac,Ad,Ae,Af,Ag,Ah,Ai,Aj,Ak,Al,Am,An,Ao,Ap,Aq,Ar,As,At,Au,Av,Aw,Ax,Ay,Az,A0,A3,A4,A5,A6,A7,A8,A9,Ba,Bb,Bc,Bd,Be,Bf,Bg,Bh,Bi,Bj,Bk,Bl,Bm,Bn,Bo,Bp,Bq,Br,Bs,Bt,Bu,Bv,Bw,Bx,By,Bz,B0,B1,B2,B3,B4,B5,B6,B7,B8,B9,Ca,Cb,Cc,Cd,Ce,Cf,Cg,Ch,Ci,Cj,Ck,Cl,Cm,Cn,Co,Cp,Cq,Cr,Cs,Ct,Cu,Cv,Cw,Cx,Cy,Cz,C0,C1,C2,C7,C8,C9,Da,Db,Dc,Dd,De,Df,Dg,Dh,Di,Dj,Dk,Dl,Dm,Dn,Do,Dp,Dq,Dr,Ds,Dt,Du,Dv,Dw,Dx,Dy,Dz,D0,D1,D2,D3,D4,D5,D6,D7,D8,D9,Ea,Eb,Ec,Ed,Ee,Ef,Eg,Eh,Ei,Ej,Ek,El,Em,En,Eo,Ep,Er,Es,Et,Eu,Ev,Ew,Ex,Ey,Ez,E0,E1,E4,E5,E6,E7,E8,E9,Fa,Fb,Fc,Fd,Fe,Ff,Fg,Fh,Fi,Fj,Fk,Fl,Fm,Fn,Fo,Fp,Fq,Fr,Fs,Ft,Fu,Fv,Fw,Fx,Fy,Fz,F0,F1,F2,F3,F4,F5,F6,F7,F8,F9,Ga,Gb,Gc,Gd,Ge,Gf,Gg,Gh,Gi,Gj,Gk,Gl,Gm,Gn,Gp,Gq,Gr,Gs,Gt,Gu,Gv,Gw,Gx,Gy,Gz,G0,G1,G2,G3,G4,G5,G6,G7,G8,G9,Ha,Hb,Hc,Hd,He,Hf,Hg,Hh,Hi,Hj,Hk,Hl,Hm,Hn,Ho,Hp,Hq,Hr,Hs,Ht,Hu,Hv,Hw,Hx,Hy,Hz,H1,H2,H3,H4,H5,H6,H7,H8,H9,Ia,Ib,Ic,Ie,If,Ig,Ih,Ii,Ij,Ik,Il,Im,In,Io,Ip,Iq,Ir,Is,It,Iu,Iv,Iw,Ix,Iy,Iz,I0,I1,I2,I3,I4,I5,I6,I7,I8,I9,Ja,Jb,Jc,Jd,Je,Jf,Jg,Jh,Ji,Jj,Jk,Jl,Jm,Jn,Jo,Jp,Jq,Jr,Js,Jt,Ju,Jv,Jw,Jx,Jy,Jz,J0,J1,J2,J3,J4,J5,J6,J7,J8,J9,Ka,Kb,Kc,Ke,Kf,Kg,Kh,Ki,Kj,Kk,Kl,Km,Kn,Ko,Kp,Kq,Kr,Ks,Kt,Ku,Kv,Kw,Kx,Ky,Kz,K0,K1,K3,K4,K5,K6,K7,K8,K9,La,Lb,Lc,Ld,Le,Lf,Lg,Lh,Li,Lj,Lk,Ll,Lm,Ln,Lo,Lp,Lq,Lr,Ls,Lt,Lu,Lv,Lw,Lx,Ly,Lz,L0,L1,L2,L3,L4,L5,L6,L7,L8,L9,Ma,Mb,Mc,.bool false,Me,Mf,Mg,Mh,Mi,Mj,Mk,Ml,Mm,Mn,Mo,Mp,Mq,Mr,Ms,Mt,Mu,Mv,Mw,Mx,My,Mz,M0,M1,M2,M3,M4,M5,M6,M7,M8,M9,Na,Nb,Nc,Nd,Nf,Ng,Nh,Ni,Nj,Nk,Nl,Nm,Nn,No,Np,Nq,Nr,Ns,Nt,Nu,Nv,Nw,Nx,Ny,Nz,N0,N1,N2,N3,N4,N5,N6,N7,N8,N9,Oa,Ob,Oc,Od,Oe,Of,Og,Oh,Oi,Oj,Ok,Ol,Om,On,Oo,Op,Oq,Os,Ot,Ou,Ov,Ow,Ox,Oy,Oz,O0,O1,O2,O3,O4,O5,O6,O7,O8,O9,Pa,Pb,Pc,Pd,Pe,Pf,Pg,Ph,Pi,Pj,Pk,Pl,Pm,Pn,Po,Pp,Pq,Pr,Ps,Pt],[]⟩ wr := by
  conv => arg 2; whnf
  have HKK := Aside0.mk hK
  clear hK
  go_wp2_with fail
  exact HKK.out ⟨(by repeat first|(with_reducible first|exact HB.out|apply below_alloc|apply pw_below_drewN|apply below_drew1)|exact HB.out)⟩
theorem partE (fi sl sr : List Int) (mn : Int) (AF : Option Addr) (cF : Nat) (wb : World) (wr : World)
    (HB : Aside0 (Below wb.heap.size wb wr))
    (hmn : 1 ≤ mn)
    (C4 : Aside0 (∀ W,Below wb.heap.size wb W → Calls Try.prog 7 #[.slice AF fi.length cF] W fun e w' => ∃ v,e = .returned (.tuple #[v,.bool true]) ∧ Kd.R (Kd.int .i64) 3 w' W.heap.size (fun _ => True) v sl ∧ Below W.heap.size W w')) (C5 : Aside0 (∀ W,Below wb.heap.size wb W → Calls Try.prog 8 #[.slice AF fi.length cF] W fun e w' => ∃ v,e = .returned (.tuple #[v,.bool true]) ∧ Kd.R (Kd.int .i64) 3 w' W.heap.size (fun _ => True) v sr ∧ Below W.heap.size W w'))
    (C6 : Aside0 (∀ W,Below wb.heap.size wb W → Calls Try.prog 44 #[.int .i64 (fi.length : Int),.int .i64 (sl.length : Int),.int .i64 (sr.length : Int)] W fun e w' => e = .returned (.tuple #[.int .i64 mn,.bool true]) ∧ Drawn0 W w'))
    (Q' : Exit → Act → World → Prop) (K' : Act → World → Prop)
    (hK : ∀ ⦃Pu Px Py Pz P0 P1 P2 Qq Qr Qs Qt Qu Qv Qw Qx Qy Qz Q0 Q1 Q2 Q3 Q4 Q5 Q6 Q7 Q8 Q9 Ra Rb Rc Rd Re Rf Rg Rh Ri Rj Rk Rl Rm Rn Ro Rp Rq Rr Rs Rt Ru Rv Rw Rx Ry Rz R0 R1 R2 : Value⦄ ⦃w' : World⦄,Aside0 (Below wb.heap.size wb w') → K' ⟨#[Aa,Ab,Ac,Ad,Pu,Af,Ag,Ah,Ai,Aj,Ak,Al,Am,An,Ao,Ap,Aq,Ar,As,At,Au,Av,Aw,Ax,Ay,Az,A0,A3,A4,A5,A6,A7,A8,A9,Ba,Bb,Bc,Bd,Be,Bf,Bg,Bh,Bi,Bj,.int .i64 (fi.length : Int),.int .i64 (sl.length : Int),.int .i64 (sr.length : Int),.slice AF fi.length cF,Bo,Bp,Bq,Br,Bs,Bt,Bu,Bv,Bw,Bx,By,Bz,Px,Py,Pz,P0,P1,P2,B6,B7,B8,B9,Ca,Cb,Cc,Cd,Ce,Cf,Cg,Ch,Ci,Cj,Ck,Cl,Cm,Cn,Co,Cp,Cq,Cr,Cs,Ct,Cu,Cv,Cw,Cx,Cy,Cz,C0,C1,C2,C7,C8,C9,Da,Db,Dc,Dd,De,Df,Dg,Dh,Di,Dj,Dk,Dl,Dm,Dn,Do,Dp,Dq,Dr,Ds,Dt,Du,Dv,Dw,Dx,Dy,Dz,D0,D1,D2,D3,D4,D5,D6,D7,D8,D9,Ea,Eb,Ec,Ed,Ee,Ef,Eg,Eh,Ei,Ej,Ek,El,Em,En,Eo,Ep,Er,Es,Et,Eu,Ev,Ew,Ex,Ey,Ez,E0,E1,E4,E5,E6,E7,E8,E9,Fa,Fb,Fc,Fd,Fe,Ff,Fg,Fh,Fi,Fj,Fk,Fl,Fm,Fn,Fo,Fp,Fq,Fr,Fs,Ft,Fu,Fv,Fw,Fx,Fy,Fz,F0,F1,F2,F3,F4,F5,F6,F7,F8,F9,Ga,Gb,Gc,Gd,Ge,Gf,Gg,Gh,Gi,Gj,Gk,Gl,Gm,Gn,Gp,Gq,Gr,Gs,Gt,Gu,Gv,Gw,Gx,Gy,Gz,G0,G1,G2,G3,G4,G5,G6,G7,G8,G9,Ha,Hb,Hc,Hd,He,Hf,Hg,Hh,Hi,Hj,Hk,Hl,Hm,Hn,Ho,Hp,Hq,Hr,Hs,Ht,Hu,Hv,Hw,Hx,Hy,Hz,H1,H2,H3,H4,H5,H6,H7,H8,H9,Ia,Ib,Ic,Ie,If,Ig,Ih,Ii,Ij,Ik,Il,Im,In,Io,Ip,Iq,Ir,Is,It,Iu,Iv,Iw,Ix,Iy,Iz,I0,I1,I2,I3,I4,I5,I6,I7,I8,I9,Ja,Jb,Jc,Jd,Je,Jf,Jg,Jh,Ji,Jj,Jk,Jl,Jm,Jn,Jo,Jp,Jq,Jr,Js,Jt,Ju,Jv,Jw,Jx,Jy,Jz,J0,J1,J2,J3,J4,J5,J6,J7,J8,J9,Ka,Kb,Kc,Ke,Kf,Kg,Kh,Ki,Kj,Kk,Kl,Km,Kn,Ko,Kp,Kq,Kr,Ks,Kt,Ku,Kv,Kw,Kx,Ky,Kz,K0,K1,K3,K4,K5,K6,K7,K8,K9,La,Lb,Lc,Ld,Le,Lf,Lg,Lh,Li,Lj,Lk,Ll,Lm,Ln,Lo,Lp,Lq,Lr,Ls,Lt,Lu,Lv,Lw,Lx,Ly,Lz,L0,L1,L2,L3,L4,L5,L6,L7,L8,L9,Ma,Mb,Mc,Md,Me,Mf,Mg,Mh,Mi,Mj,Mk,Ml,Mm,Mn,Mo,Mp,Mq,Mr,.bool true,Qq,Qr,Qs,Qt,Qu,Qv,Qw,Qx,Qy,Qz,Q0,Q1,Q2,Q3,Q4,Q5,Q6,Q7,Q8,Q9,Ra,Rb,Rc,Rd,Re,Rf,Rg,Rh,Ri,Rj,Rk,Rl,Rm,Rn,Ro,Rp,Rq,Rr,Rs,Rt,Ru,Rv,Rw,Rx,Ry,Rz,R0,R1,R2,N7,N8,N9,Oa,Ob,Oc,Od,Oe,Of,Og,Oh,Oi,Oj,Ok,Ol,Om,On,Oo,Op,Oq,Os,Ot,Ou,Ov,Ow,Ox,Oy,Oz,O0,O1,O2,O3,O4,O5,O6,O7,O8,O9,Pa,Pb,Pc,Pd,Pe,Pf,Pg,Ph,Pi,Pj,Pk,Pl,Pm,Pn,Po,Pp,Pq,Pr,Ps,Pt],[]⟩ w') :
    Code.wp Try.prog (condOf Try.f4 436) (Exit.then K' Q') ⟨#[Aa,Ab,Ac,Ad,Ae,Af,Ag,Ah,Ai,Aj,Ak,Al,Am,An,Ao,Ap,Aq,Ar,As,At,Au,Av,Aw,Ax,Ay,Az,A0,A3,A4,A5,A6,A7,A8,A9,Ba,Bb,Bc,Bd,Be,Bf,Bg,Bh,Bi,Bj,.int .i64 (fi.length : Int),.int .i64 (sl.length : Int),.int .i64 (sr.length : Int),.slice AF fi.length cF,Bo,Bp,Bq,Br,Bs,Bt,Bu,Bv,Bw,Bx,By,Bz,B0,B1,B2,B3,B4,B5,B6,B7,B8,B9,Ca,Cb,Cc,Cd,Ce,Cf,Cg,Ch,Ci,Cj,Ck,Cl,Cm,Cn,Co,Cp,Cq,Cr,Cs,Ct,Cu,Cv,Cw,Cx,Cy,Cz,C0,C1,C2,C7,C8,C9,Da,Db,Dc,Dd,De,Df,Dg,Dh,Di,Dj,Dk,Dl,Dm,Dn,Do,Dp,Dq,Dr,Ds,Dt,Du,Dv,Dw,Dx,Dy,Dz,D0,D1,D2,D3,D4,D5,D6,D7,D8,D9,Ea,Eb,Ec,Ed,Ee,Ef,Eg,Eh,Ei,Ej,Ek,El,Em,En,Eo,Ep,Er,Es,Et,Eu,Ev,Ew,Ex,Ey,Ez,E0,E1,E4,E5,E6,E7,E8,E9,Fa,Fb,Fc,Fd,Fe,Ff,Fg,Fh,Fi,Fj,Fk,Fl,Fm,Fn,Fo,Fp,Fq,Fr,Fs,Ft,Fu,Fv,Fw,Fx,Fy,Fz,F0,F1,F2,F3,F4,F5,F6,F7,F8,F9,Ga,Gb,Gc,Gd,Ge,Gf,Gg,Gh,Gi,Gj,Gk,Gl,Gm,Gn,Gp,Gq,Gr,Gs,Gt,Gu,Gv,Gw,Gx,Gy,Gz,G0,G1,G2,G3,G4,G5,G6,G7,G8,G9,Ha,Hb,Hc,Hd,He,Hf,Hg,Hh,Hi,Hj,Hk,Hl,Hm,Hn,Ho,Hp,Hq,Hr,Hs,Ht,Hu,Hv,Hw,Hx,Hy,Hz,H1,H2,H3,H4,H5,H6,H7,H8,H9,Ia,Ib,Ic,Ie,If,Ig,Ih,Ii,Ij,Ik,Il,Im,In,Io,Ip,Iq,Ir,Is,It,Iu,Iv,Iw,Ix,Iy,Iz,I0,I1,I2,I3,I4,I5,I6,I7,I8,I9,Ja,Jb,Jc,Jd,Je,Jf,Jg,Jh,Ji,Jj,Jk,Jl,Jm,Jn,Jo,Jp,Jq,Jr,Js,Jt,Ju,Jv,Jw,Jx,Jy,Jz,J0,J1,J2,J3,J4,J5,J6,J7,J8,J9,Ka,Kb,Kc,Ke,Kf,Kg,Kh,Ki,Kj,Kk,Kl,Km,Kn,Ko,Kp,Kq,Kr,Ks,Kt,Ku,Kv,Kw,Kx,Ky,Kz,K0,K1,K3,K4,K5,K6,K7,K8,K9,La,Lb,Lc,Ld,Le,Lf,Lg,Lh,Li,Lj,Lk,Ll,Lm,Ln,Lo,Lp,Lq,Lr,Ls,Lt,Lu,Lv,Lw,Lx,Ly,Lz,L0,L1,L2,L3,L4,L5,L6,L7,L8,L9,Ma,Mb,Mc,Md,Me,Mf,Mg,Mh,Mi,Mj,Mk,Ml,Mm,Mn,Mo,Mp,Mq,Mr,.bool true,Mt,Mu,Mv,Mw,Mx,My,Mz,M0,M1,M2,M3,M4,M5,M6,M7,M8,M9,Na,Nb,Nc,Nd,Nf,Ng,Nh,Ni,Nj,Nk,Nl,Nm,Nn,No,Np,Nq,Nr,Ns,Nt,Nu,Nv,Nw,Nx,Ny,Nz,N0,N1,N2,N3,N4,N5,N6,N7,N8,N9,Oa,Ob,Oc,Od,Oe,Of,Og,Oh,Oi,Oj,Ok,Ol,Om,On,Oo,Op,Oq,Os,Ot,Ou,Ov,Ow,Ox,Oy,Oz,O0,O1,O2,O3,O4,O5,O6,O7,O8,O9,Pa,Pb,Pc,Pd,Pe,Pf,Pg,Ph,Pi,Pj,Pk,Pl,Pm,Pn,Po,Pp,Pq,Pr,Ps,Pt],[]⟩ wr := by
  conv => arg 2; whnf
  have HKK := Aside0.mk hK
  clear hK
  have d1 : decide (mn < 1) = false := by simp; omega
  clear hmn
  go_wp2_with fail
  refine (C4.out _ (by repeat first|(with_reducible first|exact HB.out|apply below_alloc|apply pw_below_drewN|apply below_drew1)|exact HB.out)).mono ?_
  rintro e wd1 ⟨vd1,rfl,ho,hb⟩
  obtain ⟨A1,k1,rfl,hlc,hC⟩ := Kd.R_reads ho
  have HBn := Aside0.mk (below_step (by repeat first|(with_reducible first|exact HB.out|apply below_alloc|apply pw_below_drewN|apply below_drew1)|exact HB.out) hb); clear hb HB; have HB := HBn; clear HBn; try dsimp only
  clear ho hlc hC
  go_wp2_with fail
  refine (C5.out _ (by repeat first|(with_reducible first|exact HB.out|apply below_alloc|apply pw_below_drewN|apply below_drew1)|exact HB.out)).mono ?_
  rintro e wd2 ⟨vd2,rfl,ho,hb⟩
  obtain ⟨A2,k2,rfl,hlc,hC⟩ := Kd.R_reads ho
  have HBn := Aside0.mk (below_step (by repeat first|(with_reducible first|exact HB.out|apply below_alloc|apply pw_below_drewN|apply below_drew1)|exact HB.out) hb); clear hb HB; have HB := HBn; clear HBn; try dsimp only
  clear ho hlc hC
  go_wp2_with (go_at_call 44; with_reducible refine (C6.out _ (by repeat first|(with_reducible first|exact HB.out|apply below_alloc|apply pw_below_drewN|apply below_drew1)|exact HB.out)).mono ?_; rintro e w3 ⟨rfl,⟨nd3,rfl⟩⟩; try dsimp only)
  exact HKK.out ⟨(by repeat first|(with_reducible first|exact HB.out|apply below_alloc|apply pw_below_drewN|apply below_drew1)|exact HB.out)⟩
theorem partE_no (wb : World) (wr : World)
    (HB : Aside0 (Below wb.heap.size wb wr))
    (Q' : Exit → Act → World → Prop) (K' : Act → World → Prop)
    (hK : ∀ ⦃Pu Px Py Pz P0 P1 P2 Qq Qr Qs Qt Qu Qv Qw Qx Qy Qz Q0 Q1 Q2 Q3 Q4 Q5 Q6 Q7 Q8 Q9 Ra Rb Rc Rd Re Rf Rg Rh Ri Rj Rk Rl Rm Rn Ro Rp Rq Rr Rs Rt Ru Rv Rw Rx Ry Rz R0 R1 R2 : Value⦄ ⦃w' : World⦄,Aside0 (Below wb.heap.size wb w') → K' ⟨#[Aa,Ab,Ac,Ad,Pu,Af,Ag,Ah,Ai,Aj,Ak,Al,Am,An,Ao,Ap,Aq,Ar,As,At,Au,Av,Aw,Ax,Ay,Az,A0,A3,A4,A5,A6,A7,A8,A9,Ba,Bb,Bc,Bd,Be,Bf,Bg,Bh,Bi,Bj,Bk,Bl,Bm,Bn,Bo,Bp,Bq,Br,Bs,Bt,Bu,Bv,Bw,Bx,By,Bz,Px,Py,Pz,P0,P1,P2,B6,B7,B8,B9,Ca,Cb,Cc,Cd,Ce,Cf,Cg,Ch,Ci,Cj,Ck,Cl,Cm,Cn,Co,Cp,Cq,Cr,Cs,Ct,Cu,Cv,Cw,Cx,Cy,Cz,C0,C1,C2,C7,C8,C9,Da,Db,Dc,Dd,De,Df,Dg,Dh,Di,Dj,Dk,Dl,Dm,Dn,Do,Dp,Dq,Dr,Ds,Dt,Du,Dv,Dw,Dx,Dy,Dz,D0,D1,D2,D3,D4,D5,D6,D7,D8,D9,Ea,Eb,Ec,Ed,Ee,Ef,Eg,Eh,Ei,Ej,Ek,El,Em,En,Eo,Ep,Er,Es,Et,Eu,Ev,Ew,Ex,Ey,Ez,E0,E1,E4,E5,E6,E7,E8,E9,Fa,Fb,Fc,Fd,Fe,Ff,Fg,Fh,Fi,Fj,Fk,Fl,Fm,Fn,Fo,Fp,Fq,Fr,Fs,Ft,Fu,Fv,Fw,Fx,Fy,Fz,F0,F1,F2,F3,F4,F5,F6,F7,F8,F9,Ga,Gb,Gc,Gd,Ge,Gf,Gg,Gh,Gi,Gj,Gk,Gl,Gm,Gn,Gp,Gq,Gr,Gs,Gt,Gu,Gv,Gw,Gx,Gy,Gz,G0,G1,G2,G3,G4,G5,G6,G7,G8,G9,Ha,Hb,Hc,Hd,He,Hf,Hg,Hh,Hi,Hj,Hk,Hl,Hm,Hn,Ho,Hp,Hq,Hr,Hs,Ht,Hu,Hv,Hw,Hx,Hy,Hz,H1,H2,H3,H4,H5,H6,H7,H8,H9,Ia,Ib,Ic,Ie,If,Ig,Ih,Ii,Ij,Ik,Il,Im,In,Io,Ip,Iq,Ir,Is,It,Iu,Iv,Iw,Ix,Iy,Iz,I0,I1,I2,I3,I4,I5,I6,I7,I8,I9,Ja,Jb,Jc,Jd,Je,Jf,Jg,Jh,Ji,Jj,Jk,Jl,Jm,Jn,Jo,Jp,Jq,Jr,Js,Jt,Ju,Jv,Jw,Jx,Jy,Jz,J0,J1,J2,J3,J4,J5,J6,J7,J8,J9,Ka,Kb,Kc,Ke,Kf,Kg,Kh,Ki,Kj,Kk,Kl,Km,Kn,Ko,Kp,Kq,Kr,Ks,Kt,Ku,Kv,Kw,Kx,Ky,Kz,K0,K1,K3,K4,K5,K6,K7,K8,K9,La,Lb,Lc,Ld,Le,Lf,Lg,Lh,Li,Lj,Lk,Ll,Lm,Ln,Lo,Lp,Lq,Lr,Ls,Lt,Lu,Lv,Lw,Lx,Ly,Lz,L0,L1,L2,L3,L4,L5,L6,L7,L8,L9,Ma,Mb,Mc,Md,Me,Mf,Mg,Mh,Mi,Mj,Mk,Ml,Mm,Mn,Mo,Mp,Mq,Mr,.bool false,Qq,Qr,Qs,Qt,Qu,Qv,Qw,Qx,Qy,Qz,Q0,Q1,Q2,Q3,Q4,Q5,Q6,Q7,Q8,Q9,Ra,Rb,Rc,Rd,Re,Rf,Rg,Rh,Ri,Rj,Rk,Rl,Rm,Rn,Ro,Rp,Rq,Rr,Rs,Rt,Ru,Rv,Rw,Rx,Ry,Rz,R0,R1,R2,N7,N8,N9,Oa,Ob,Oc,Od,Oe,Of,Og,Oh,Oi,Oj,Ok,Ol,Om,On,Oo,Op,Oq,Os,Ot,Ou,Ov,Ow,Ox,Oy,Oz,O0,O1,O2,O3,O4,O5,O6,O7,O8,O9,Pa,Pb,Pc,Pd,Pe,Pf,Pg,Ph,Pi,Pj,Pk,Pl,Pm,Pn,Po,Pp,Pq,Pr,Ps,Pt],[]⟩ w') :
    Code.wp Try.prog (condOf Try.f4 436) (Exit.then K' Q') ⟨#[Aa,Ab,Ac,Ad,Ae,Af,Ag,Ah,Ai,Aj,Ak,Al,Am,An,Ao,Ap,Aq,Ar,As,At,Au,Av,Aw,Ax,Ay,Az,A0,A3,A4,A5,A6,A7,A8,A9,Ba,Bb,Bc,Bd,Be,Bf,Bg,Bh,Bi,Bj,Bk,Bl,Bm,Bn,Bo,Bp,Bq,Br,Bs,Bt,Bu,Bv,Bw,Bx,By,Bz,B0,B1,B2,B3,B4,B5,B6,B7,B8,B9,Ca,Cb,Cc,Cd,Ce,Cf,Cg,Ch,Ci,Cj,Ck,Cl,Cm,Cn,Co,Cp,Cq,Cr,Cs,Ct,Cu,Cv,Cw,Cx,Cy,Cz,C0,C1,C2,C7,C8,C9,Da,Db,Dc,Dd,De,Df,Dg,Dh,Di,Dj,Dk,Dl,Dm,Dn,Do,Dp,Dq,Dr,Ds,Dt,Du,Dv,Dw,Dx,Dy,Dz,D0,D1,D2,D3,D4,D5,D6,D7,D8,D9,Ea,Eb,Ec,Ed,Ee,Ef,Eg,Eh,Ei,Ej,Ek,El,Em,En,Eo,Ep,Er,Es,Et,Eu,Ev,Ew,Ex,Ey,Ez,E0,E1,E4,E5,E6,E7,E8,E9,Fa,Fb,Fc,Fd,Fe,Ff,Fg,Fh,Fi,Fj,Fk,Fl,Fm,Fn,Fo,Fp,Fq,Fr,Fs,Ft,Fu,Fv,Fw,Fx,Fy,Fz,F0,F1,F2,F3,F4,F5,F6,F7,F8,F9,Ga,Gb,Gc,Gd,Ge,Gf,Gg,Gh,Gi,Gj,Gk,Gl,Gm,Gn,Gp,Gq,Gr,Gs,Gt,Gu,Gv,Gw,Gx,Gy,Gz,G0,G1,G2,G3,G4,G5,G6,G7,G8,G9,Ha,Hb,Hc,Hd,He,Hf,Hg,Hh,Hi,Hj,Hk,Hl,Hm,Hn,Ho,Hp,Hq,Hr,Hs,Ht,Hu,Hv,Hw,Hx,Hy,Hz,H1,H2,H3,H4,H5,H6,H7,H8,H9,Ia,Ib,Ic,Ie,If,Ig,Ih,Ii,Ij,Ik,Il,Im,In,Io,Ip,Iq,Ir,Is,It,Iu,Iv,Iw,Ix,Iy,Iz,I0,I1,I2,I3,I4,I5,I6,I7,I8,I9,Ja,Jb,Jc,Jd,Je,Jf,Jg,Jh,Ji,Jj,Jk,Jl,Jm,Jn,Jo,Jp,Jq,Jr,Js,Jt,Ju,Jv,Jw,Jx,Jy,Jz,J0,J1,J2,J3,J4,J5,J6,J7,J8,J9,Ka,Kb,Kc,Ke,Kf,Kg,Kh,Ki,Kj,Kk,Kl,Km,Kn,Ko,Kp,Kq,Kr,Ks,Kt,Ku,Kv,Kw,Kx,Ky,Kz,K0,K1,K3,K4,K5,K6,K7,K8,K9,La,Lb,Lc,Ld,Le,Lf,Lg,Lh,Li,Lj,Lk,Ll,Lm,Ln,Lo,Lp,Lq,Lr,Ls,Lt,Lu,Lv,Lw,Lx,Ly,Lz,L0,L1,L2,L3,L4,L5,L6,L7,L8,L9,Ma,Mb,Mc,Md,Me,Mf,Mg,Mh,Mi,Mj,Mk,Ml,Mm,Mn,Mo,Mp,Mq,Mr,.bool false,Mt,Mu,Mv,Mw,Mx,My,Mz,M0,M1,M2,M3,M4,M5,M6,M7,M8,M9,Na,Nb,Nc,Nd,Nf,Ng,Nh,Ni,Nj,Nk,Nl,Nm,Nn,No,Np,Nq,Nr,Ns,Nt,Nu,Nv,Nw,Nx,Ny,Nz,N0,N1,N2,N3,N4,N5,N6,N7,N8,N9,Oa,Ob,Oc,Od,Oe,Of,Og,Oh,Oi,Oj,Ok,Ol,Om,On,Oo,Op,Oq,Os,Ot,Ou,Ov,Ow,Ox,Oy,Oz,O0,O1,O2,O3,O4,O5,O6,O7,O8,O9,Pa,Pb,Pc,Pd,Pe,Pf,Pg,Ph,Pi,Pj,Pk,Pl,Pm,Pn,Po,Pp,Pq,Pr,Ps,Pt],[]⟩ wr := by
  conv => arg 2; whnf
  have HKK := Aside0.mk hK
  clear hK
  go_wp2_with fail
  exact HKK.out ⟨(by repeat first|(with_reducible first|exact HB.out|apply below_alloc|apply pw_below_drewN|apply below_drew1)|exact HB.out)⟩
end Go.Proofs.Ytleacijhpkogpad.HBigU
/- The law on who rises (FnHeightsRise),a part of its walk: orders,counted one by one. -/
namespace Go.Proofs.Ytleacijhpkogpad.HBigU
open Go.RowKit YtleacijhpkogpadW.PrintWords YtleacijhpkogpadW.PrintLast YtleacijhpkogpadW.PrintMore Part HImpl

theorem partF (p n : Nat) (wb : World) (wr : World)
    (HB : Aside0 (Below wb.heap.size wb wr))
    (hp : p = n + 1) (hn : n ≤ 14) (HFB : Aside0 (∀ i : Nat,i ≤ 14 → HRiseQ.allS i ≤ 1307674368000))
    (Q' : Exit → Act → World → Prop) (K' : Act → World → Prop)
    (hK : ∀ ⦃P3 P6 R3 R4 R5 R6 R7 R8 R9 Sb : Value⦄ ⦃w' : World⦄,P3 = .int .i64 (HRiseQ.allS n : Int) → Aside0 (Below wb.heap.size wb w') → K' ⟨#[Aa,Ab,Ac,Ad,Ae,Af,Ag,Ah,Ai,Aj,Ak,Al,Am,An,Ao,Ap,Aq,Ar,As,At,Au,Av,Aw,Ax,Ay,Az,A0,A3,A4,A5,A6,A7,A8,A9,Ba,Bb,Bc,Bd,Be,Bf,Bg,Bh,Bi,Bj,Bk,Bl,Bm,Bn,Bo,Bp,Bq,.int .i64 (p : Int),Bs,Bt,Bu,Bv,Bw,Bx,By,Bz,B0,B1,B2,B3,B4,B5,P3,B7,B8,P6,Ca,Cb,Cc,Cd,Ce,Cf,Cg,Ch,Ci,Cj,Ck,Cl,Cm,Cn,Co,Cp,Cq,Cr,Cs,Ct,Cu,Cv,Cw,Cx,Cy,Cz,C0,C1,C2,C7,C8,C9,Da,Db,Dc,Dd,De,Df,Dg,Dh,Di,Dj,Dk,Dl,Dm,Dn,Do,Dp,Dq,Dr,Ds,Dt,Du,Dv,Dw,Dx,Dy,Dz,D0,D1,D2,D3,D4,D5,D6,D7,D8,D9,Ea,Eb,Ec,Ed,Ee,Ef,Eg,Eh,Ei,Ej,Ek,El,Em,En,Eo,Ep,Er,Es,Et,Eu,Ev,Ew,Ex,Ey,Ez,E0,E1,E4,E5,E6,E7,E8,E9,Fa,Fb,Fc,Fd,Fe,Ff,Fg,Fh,Fi,Fj,Fk,Fl,Fm,Fn,Fo,Fp,Fq,Fr,Fs,Ft,Fu,Fv,Fw,Fx,Fy,Fz,F0,F1,F2,F3,F4,F5,F6,F7,F8,F9,Ga,Gb,Gc,Gd,Ge,Gf,Gg,Gh,Gi,Gj,Gk,Gl,Gm,Gn,Gp,Gq,Gr,Gs,Gt,Gu,Gv,Gw,Gx,Gy,Gz,G0,G1,G2,G3,G4,G5,G6,G7,G8,G9,Ha,Hb,Hc,Hd,He,Hf,Hg,Hh,Hi,Hj,Hk,Hl,Hm,Hn,Ho,Hp,Hq,Hr,Hs,Ht,Hu,Hv,Hw,Hx,Hy,Hz,H1,H2,H3,H4,H5,H6,H7,H8,H9,Ia,Ib,Ic,Ie,If,Ig,Ih,Ii,Ij,Ik,Il,Im,In,Io,Ip,Iq,Ir,Is,It,Iu,Iv,Iw,Ix,Iy,Iz,I0,I1,I2,I3,I4,I5,I6,I7,I8,I9,Ja,Jb,Jc,Jd,Je,Jf,Jg,Jh,Ji,Jj,Jk,Jl,Jm,Jn,Jo,Jp,Jq,Jr,Js,Jt,Ju,Jv,Jw,Jx,Jy,Jz,J0,J1,J2,J3,J4,J5,J6,J7,J8,J9,Ka,Kb,Kc,Ke,Kf,Kg,Kh,Ki,Kj,Kk,Kl,Km,Kn,Ko,Kp,Kq,Kr,Ks,Kt,Ku,Kv,Kw,Kx,Ky,Kz,K0,K1,K3,K4,K5,K6,K7,K8,K9,La,Lb,Lc,Ld,Le,Lf,Lg,Lh,Li,Lj,Lk,Ll,Lm,Ln,Lo,Lp,Lq,Lr,Ls,Lt,Lu,Lv,Lw,Lx,Ly,Lz,L0,L1,L2,L3,L4,L5,L6,L7,L8,L9,Ma,Mb,Mc,Md,Me,Mf,Mg,Mh,Mi,Mj,Mk,Ml,Mm,Mn,Mo,Mp,Mq,Mr,Ms,Mt,Mu,Mv,Mw,Mx,My,Mz,M0,M1,M2,M3,M4,M5,M6,M7,M8,M9,Na,Nb,Nc,Nd,Nf,Ng,Nh,Ni,Nj,Nk,Nl,Nm,Nn,No,Np,Nq,Nr,Ns,Nt,Nu,Nv,Nw,Nx,Ny,Nz,N0,N1,N2,N3,N4,N5,N6,N7,R3,R4,R5,R6,R7,R8,R9,Sb,Og,Oh,Oi,Oj,Ok,Ol,Om,On,Oo,Op,Oq,Os,Ot,Ou,Ov,Ow,Ox,Oy,Oz,O0,O1,O2,O3,O4,O5,O6,O7,O8,O9,Pa,Pb,Pc,Pd,Pe,Pf,Pg,Ph,Pi,Pj,Pk,Pl,Pm,Pn,Po,Pp,Pq,Pr,Ps,Pt],[]⟩ w') :
    Code.wp Try.prog (seqOf Try.f4 65) (Exit.then K' Q') ⟨#[Aa,Ab,Ac,Ad,Ae,Af,Ag,Ah,Ai,Aj,Ak,Al,Am,An,Ao,Ap,Aq,Ar,As,At,Au,Av,Aw,Ax,Ay,Az,A0,A3,A4,A5,A6,A7,A8,A9,Ba,Bb,Bc,Bd,Be,Bf,Bg,Bh,Bi,Bj,Bk,Bl,Bm,Bn,Bo,Bp,Bq,.int .i64 (p : Int),Bs,Bt,Bu,Bv,Bw,Bx,By,Bz,B0,B1,B2,B3,B4,B5,.int .i64 1,B7,B8,B9,Ca,Cb,Cc,Cd,Ce,Cf,Cg,Ch,Ci,Cj,Ck,Cl,Cm,Cn,Co,Cp,Cq,Cr,Cs,Ct,Cu,Cv,Cw,Cx,Cy,Cz,C0,C1,C2,C7,C8,C9,Da,Db,Dc,Dd,De,Df,Dg,Dh,Di,Dj,Dk,Dl,Dm,Dn,Do,Dp,Dq,Dr,Ds,Dt,Du,Dv,Dw,Dx,Dy,Dz,D0,D1,D2,D3,D4,D5,D6,D7,D8,D9,Ea,Eb,Ec,Ed,Ee,Ef,Eg,Eh,Ei,Ej,Ek,El,Em,En,Eo,Ep,Er,Es,Et,Eu,Ev,Ew,Ex,Ey,Ez,E0,E1,E4,E5,E6,E7,E8,E9,Fa,Fb,Fc,Fd,Fe,Ff,Fg,Fh,Fi,Fj,Fk,Fl,Fm,Fn,Fo,Fp,Fq,Fr,Fs,Ft,Fu,Fv,Fw,Fx,Fy,Fz,F0,F1,F2,F3,F4,F5,F6,F7,F8,F9,Ga,Gb,Gc,Gd,Ge,Gf,Gg,Gh,Gi,Gj,Gk,Gl,Gm,Gn,Gp,Gq,Gr,Gs,Gt,Gu,Gv,Gw,Gx,Gy,Gz,G0,G1,G2,G3,G4,G5,G6,G7,G8,G9,Ha,Hb,Hc,Hd,He,Hf,Hg,Hh,Hi,Hj,Hk,Hl,Hm,Hn,Ho,Hp,Hq,Hr,Hs,Ht,Hu,Hv,Hw,Hx,Hy,Hz,H1,H2,H3,H4,H5,H6,H7,H8,H9,Ia,Ib,Ic,Ie,If,Ig,Ih,Ii,Ij,Ik,Il,Im,In,Io,Ip,Iq,Ir,Is,It,Iu,Iv,Iw,Ix,Iy,Iz,I0,I1,I2,I3,I4,I5,I6,I7,I8,I9,Ja,Jb,Jc,Jd,Je,Jf,Jg,Jh,Ji,Jj,Jk,Jl,Jm,Jn,Jo,Jp,Jq,Jr,Js,Jt,Ju,Jv,Jw,Jx,Jy,Jz,J0,J1,J2,J3,J4,J5,J6,J7,J8,J9,Ka,Kb,Kc,Ke,Kf,Kg,Kh,Ki,Kj,Kk,Kl,Km,Kn,Ko,Kp,Kq,Kr,Ks,Kt,Ku,Kv,Kw,Kx,Ky,Kz,K0,K1,K3,K4,K5,K6,K7,K8,K9,La,Lb,Lc,Ld,Le,Lf,Lg,Lh,Li,Lj,Lk,Ll,Lm,Ln,Lo,Lp,Lq,Lr,Ls,Lt,Lu,Lv,Lw,Lx,Ly,Lz,L0,L1,L2,L3,L4,L5,L6,L7,L8,L9,Ma,Mb,Mc,Md,Me,Mf,Mg,Mh,Mi,Mj,Mk,Ml,Mm,Mn,Mo,Mp,Mq,Mr,Ms,Mt,Mu,Mv,Mw,Mx,My,Mz,M0,M1,M2,M3,M4,M5,M6,M7,M8,M9,Na,Nb,Nc,Nd,Nf,Ng,Nh,Ni,Nj,Nk,Nl,Nm,Nn,No,Np,Nq,Nr,Ns,Nt,Nu,Nv,Nw,Nx,Ny,Nz,N0,N1,N2,N3,N4,N5,N6,N7,N8,N9,Oa,Ob,Oc,Od,Oe,Of,Og,Oh,Oi,Oj,Ok,Ol,Om,On,Oo,Op,Oq,Os,Ot,Ou,Ov,Ow,Ox,Oy,Oz,O0,O1,O2,O3,O4,O5,O6,O7,O8,O9,Pa,Pb,Pc,Pd,Pe,Pf,Pg,Ph,Pi,Pj,Pk,Pl,Pm,Pn,Po,Pp,Pq,Pr,Ps,Pt],[]⟩ wr := by
  conv => arg 2; whnf
  have HKK := Aside0.mk hK
  clear hK
  have HP := Aside0.mk hp
  have h0 := HRiseQ.allS_zero
  have H0 := Aside0.mk h0
  clear hp h0
  go_wp2_with fail
  go_loopg [66,69] p (fun kq v66 v69 w' => ∃ a s : Nat,v66 = .int .i64 (s : Int) ∧ v69 = .int .i64 (a : Int) ∧ Aside0 (2 ≤ a ∧ s = HRiseQ.allS (a - 2) ∧ a ≤ p + 1) ∧ Aside0 (kq + a = p + 2) ∧ Aside0 (Below wb.heap.size wb w'))
  case atStart => exact ⟨2,1,rfl,rfl,⟨by omega,H0.out.symm,by have := HP.out; omega⟩,⟨rfl⟩,⟨(by repeat first|(with_reducible first|exact HB.out|apply below_alloc|apply pw_below_drewN|apply below_drew1)|exact HB.out)⟩⟩
  case round =>
    clear HB
    obtain ⟨a,s,rfl,rfl,HS,HK,HB⟩ := hrel
    have hk := HK.out
    by_cases hi : a ≤ p
    · have HK0 := Aside0.mk hk
      have HI0 := Aside0.mk hi
      have hs := HS.out
      have hb1 := HFB.out (a - 2) (by have := HP.out; omega)
      rw [← hs.2.1] at hb1
      have ha16 : a ≤ 15 := by have := HP.out; omega
      have hmul := Nat.mul_le_mul hb1 ha16
      have hz1 := HWR.mul_w s a (by omega)
      have HST := Aside0.mk (show s * a = HRiseQ.allS (a + 1 - 2) by
        rw [show a + 1 - 2 = (a - 2) + 1 by omega,HRiseQ.allS_step,hs.2.1,Nat.mul_comm,show a - 2 + 2 = a by omega])
      have hw : IntKind.i64.wrap ((a : Int) + 1) = (a : Int) + 1 := IntWalk.i64_in _ (by omega)
      have d1 : decide (a ≤ p) = true := decide_eq_true hi
      have d2 : decide ((a : Int) ≤ (p : Int)) = true := decide_eq_true (by omega)
      generalize s * a = sa at hz1 HST
      clear hk hs hb1 hmul hi
      go_wp2_with fail
      go_roundg (p + 1 - a)
      case measure => have := HK0.out; have := HI0.out; omega
      case rel => exact ⟨a + 1,sa,rfl,by first | rfl | simp,⟨by have := HS.out; omega,HST.out,by have := HI0.out; omega⟩,⟨by have := HK0.out; have := HI0.out; omega⟩,⟨(by repeat first|(with_reducible first|exact HB.out|apply below_alloc|apply pw_below_drewN|apply below_drew1)|exact HB.out)⟩⟩
    · have d1 : decide (a ≤ p) = false := decide_eq_false hi
      have d2 : decide ((a : Int) ≤ (p : Int)) = false := decide_eq_false (by omega)
      have hs := HS.out
      have hap : a - 2 = n := by have := HP.out; omega
      rw [hap] at hs
      obtain rfl := hs.2.1
      clear hk hs hap hi HS
      generalize HRiseQ.allS n = s at *
      go_wp2_with fail
      exact HKK.out rfl ⟨(by repeat first|(with_reducible first|exact HB.out|apply below_alloc|apply pw_below_drewN|apply below_drew1)|exact HB.out)⟩
theorem partS (p n : Nat) (wb : World) (wr : World)
    (HB : Aside0 (Below wb.heap.size wb wr))
    (hp : p = n + 1) (hn : n ≤ 14)
    (HCB : Aside0 (∀ i j : Nat,i ≤ p → j ≤ p → ∀ W,Below wb.heap.size wb W → Calls Try.prog 44 #[.int .i64 (p : Int),.int .i64 (i : Int),.int .i64 (j : Int)] W fun e w' => e = .returned (.tuple #[.int .i64 (HPlain.seenC n i j : Int),.bool true]) ∧ Drawn0 W w'))
    (HBD : Aside0 (∀ i j : Nat,i ≤ p → j ≤ p → HRiseP.sm (HRiseQ.rowS n) i + HRiseP.sm (fun j => HPlain.seenC n i j) (j + 1) ≤ 100000000000000 ∧ HRiseP.sm (fun i => i * HRiseQ.rowS n i) i + i * HRiseP.sm (fun j => HPlain.seenC n i j) (j + 1) ≤ 100000000000000))
    (Q' : Exit → Act → World → Prop) (K' : Act → World → Prop)
    (hK : ∀ ⦃Pu P4 P5 P7 P8 P9 Qb Sc Sd Se Sf Sg Sh Si Sj Sk Sl Sm Sn So Sp Sq Sr Ss St Su Sv Sw Sx Sy Sz S0 S2 S3 : Value⦄ ⦃w' : World⦄,P4 = .int .i64 (HRiseQ.allS n : Int) → P5 = .int .i64 (HRiseQ.allW n : Int) → Aside0 (Below wb.heap.size wb w') → K' ⟨#[Aa,Ab,Ac,Ad,Pu,Af,Ag,Ah,Ai,Aj,Ak,Al,Am,An,Ao,Ap,Aq,Ar,As,At,Au,Av,Aw,Ax,Ay,Az,A0,A3,A4,A5,A6,A7,A8,A9,Ba,Bb,Bc,Bd,Be,Bf,Bg,Bh,Bi,Bj,Bk,Bl,Bm,Bn,Bo,Bp,Bq,.int .i64 (p : Int),Bs,Bt,Bu,Bv,Bw,Bx,By,Bz,B0,B1,B2,B3,B4,B5,B6,P4,P5,B9,P7,P8,P9,Qb,Ce,Cf,Cg,Ch,Ci,Cj,Ck,Cl,Cm,Cn,Co,Cp,Cq,Cr,Cs,Ct,Cu,Cv,Cw,Cx,Cy,Cz,C0,C1,C2,C7,C8,C9,Da,Db,Dc,Dd,De,Df,Dg,Dh,Di,Dj,Dk,Dl,Dm,Dn,Do,Dp,Dq,Dr,Ds,Dt,Du,Dv,Dw,Dx,Dy,Dz,D0,D1,D2,D3,D4,D5,D6,D7,D8,D9,Ea,Eb,Ec,Ed,Ee,Ef,Eg,Eh,Ei,Ej,Ek,El,Em,En,Eo,Ep,Er,Es,Et,Eu,Ev,Ew,Ex,Ey,Ez,E0,E1,E4,E5,E6,E7,E8,E9,Fa,Fb,Fc,Fd,Fe,Ff,Fg,Fh,Fi,Fj,Fk,Fl,Fm,Fn,Fo,Fp,Fq,Fr,Fs,Ft,Fu,Fv,Fw,Fx,Fy,Fz,F0,F1,F2,F3,F4,F5,F6,F7,F8,F9,Ga,Gb,Gc,Gd,Ge,Gf,Gg,Gh,Gi,Gj,Gk,Gl,Gm,Gn,Gp,Gq,Gr,Gs,Gt,Gu,Gv,Gw,Gx,Gy,Gz,G0,G1,G2,G3,G4,G5,G6,G7,G8,G9,Ha,Hb,Hc,Hd,He,Hf,Hg,Hh,Hi,Hj,Hk,Hl,Hm,Hn,Ho,Hp,Hq,Hr,Hs,Ht,Hu,Hv,Hw,Hx,Hy,Hz,H1,H2,H3,H4,H5,H6,H7,H8,H9,Ia,Ib,Ic,Ie,If,Ig,Ih,Ii,Ij,Ik,Il,Im,In,Io,Ip,Iq,Ir,Is,It,Iu,Iv,Iw,Ix,Iy,Iz,I0,I1,I2,I3,I4,I5,I6,I7,I8,I9,Ja,Jb,Jc,Jd,Je,Jf,Jg,Jh,Ji,Jj,Jk,Jl,Jm,Jn,Jo,Jp,Jq,Jr,Js,Jt,Ju,Jv,Jw,Jx,Jy,Jz,J0,J1,J2,J3,J4,J5,J6,J7,J8,J9,Ka,Kb,Kc,Ke,Kf,Kg,Kh,Ki,Kj,Kk,Kl,Km,Kn,Ko,Kp,Kq,Kr,Ks,Kt,Ku,Kv,Kw,Kx,Ky,Kz,K0,K1,K3,K4,K5,K6,K7,K8,K9,La,Lb,Lc,Ld,Le,Lf,Lg,Lh,Li,Lj,Lk,Ll,Lm,Ln,Lo,Lp,Lq,Lr,Ls,Lt,Lu,Lv,Lw,Lx,Ly,Lz,L0,L1,L2,L3,L4,L5,L6,L7,L8,L9,Ma,Mb,Mc,Md,Me,Mf,Mg,Mh,Mi,Mj,Mk,Ml,Mm,Mn,Mo,Mp,Mq,Mr,Ms,Mt,Mu,Mv,Mw,Mx,My,Mz,M0,M1,M2,M3,M4,M5,M6,M7,M8,M9,Na,Nb,Nc,Nd,Nf,Ng,Nh,Ni,Nj,Nk,Nl,Nm,Nn,No,Np,Nq,Nr,Ns,Nt,Nu,Nv,Nw,Nx,Ny,Nz,N0,N1,N2,N3,N4,N5,N6,N7,N8,N9,Oa,Ob,Oc,Od,Oe,Of,Sc,Sd,Se,Sf,Sg,Sh,Si,Sj,Sk,Sl,Sm,Sn,So,Sp,Sq,Sr,Ss,St,Su,Sv,Sw,Sx,Sy,Sz,S0,S2,S3,O8,O9,Pa,Pb,Pc,Pd,Pe,Pf,Pg,Ph,Pi,Pj,Pk,Pl,Pm,Pn,Po,Pp,Pq,Pr,Ps,Pt],[]⟩ w') :
    Code.wp Try.prog (seqOf Try.f4 69) (Exit.then K' Q') ⟨#[Aa,Ab,Ac,Ad,Ae,Af,Ag,Ah,Ai,Aj,Ak,Al,Am,An,Ao,Ap,Aq,Ar,As,At,Au,Av,Aw,Ax,Ay,Az,A0,A3,A4,A5,A6,A7,A8,A9,Ba,Bb,Bc,Bd,Be,Bf,Bg,Bh,Bi,Bj,Bk,Bl,Bm,Bn,Bo,Bp,Bq,.int .i64 (p : Int),Bs,Bt,Bu,Bv,Bw,Bx,By,Bz,B0,B1,B2,B3,B4,B5,B6,.int .i64 0,.int .i64 0,B9,Ca,Cb,Cc,Cd,Ce,Cf,Cg,Ch,Ci,Cj,Ck,Cl,Cm,Cn,Co,Cp,Cq,Cr,Cs,Ct,Cu,Cv,Cw,Cx,Cy,Cz,C0,C1,C2,C7,C8,C9,Da,Db,Dc,Dd,De,Df,Dg,Dh,Di,Dj,Dk,Dl,Dm,Dn,Do,Dp,Dq,Dr,Ds,Dt,Du,Dv,Dw,Dx,Dy,Dz,D0,D1,D2,D3,D4,D5,D6,D7,D8,D9,Ea,Eb,Ec,Ed,Ee,Ef,Eg,Eh,Ei,Ej,Ek,El,Em,En,Eo,Ep,Er,Es,Et,Eu,Ev,Ew,Ex,Ey,Ez,E0,E1,E4,E5,E6,E7,E8,E9,Fa,Fb,Fc,Fd,Fe,Ff,Fg,Fh,Fi,Fj,Fk,Fl,Fm,Fn,Fo,Fp,Fq,Fr,Fs,Ft,Fu,Fv,Fw,Fx,Fy,Fz,F0,F1,F2,F3,F4,F5,F6,F7,F8,F9,Ga,Gb,Gc,Gd,Ge,Gf,Gg,Gh,Gi,Gj,Gk,Gl,Gm,Gn,Gp,Gq,Gr,Gs,Gt,Gu,Gv,Gw,Gx,Gy,Gz,G0,G1,G2,G3,G4,G5,G6,G7,G8,G9,Ha,Hb,Hc,Hd,He,Hf,Hg,Hh,Hi,Hj,Hk,Hl,Hm,Hn,Ho,Hp,Hq,Hr,Hs,Ht,Hu,Hv,Hw,Hx,Hy,Hz,H1,H2,H3,H4,H5,H6,H7,H8,H9,Ia,Ib,Ic,Ie,If,Ig,Ih,Ii,Ij,Ik,Il,Im,In,Io,Ip,Iq,Ir,Is,It,Iu,Iv,Iw,Ix,Iy,Iz,I0,I1,I2,I3,I4,I5,I6,I7,I8,I9,Ja,Jb,Jc,Jd,Je,Jf,Jg,Jh,Ji,Jj,Jk,Jl,Jm,Jn,Jo,Jp,Jq,Jr,Js,Jt,Ju,Jv,Jw,Jx,Jy,Jz,J0,J1,J2,J3,J4,J5,J6,J7,J8,J9,Ka,Kb,Kc,Ke,Kf,Kg,Kh,Ki,Kj,Kk,Kl,Km,Kn,Ko,Kp,Kq,Kr,Ks,Kt,Ku,Kv,Kw,Kx,Ky,Kz,K0,K1,K3,K4,K5,K6,K7,K8,K9,La,Lb,Lc,Ld,Le,Lf,Lg,Lh,Li,Lj,Lk,Ll,Lm,Ln,Lo,Lp,Lq,Lr,Ls,Lt,Lu,Lv,Lw,Lx,Ly,Lz,L0,L1,L2,L3,L4,L5,L6,L7,L8,L9,Ma,Mb,Mc,Md,Me,Mf,Mg,Mh,Mi,Mj,Mk,Ml,Mm,Mn,Mo,Mp,Mq,Mr,Ms,Mt,Mu,Mv,Mw,Mx,My,Mz,M0,M1,M2,M3,M4,M5,M6,M7,M8,M9,Na,Nb,Nc,Nd,Nf,Ng,Nh,Ni,Nj,Nk,Nl,Nm,Nn,No,Np,Nq,Nr,Ns,Nt,Nu,Nv,Nw,Nx,Ny,Nz,N0,N1,N2,N3,N4,N5,N6,N7,N8,N9,Oa,Ob,Oc,Od,Oe,Of,Og,Oh,Oi,Oj,Ok,Ol,Om,On,Oo,Op,Oq,Os,Ot,Ou,Ov,Ow,Ox,Oy,Oz,O0,O1,O2,O3,O4,O5,O6,O7,O8,O9,Pa,Pb,Pc,Pd,Pe,Pf,Pg,Ph,Pi,Pj,Pk,Pl,Pm,Pn,Po,Pp,Pq,Pr,Ps,Pt],[]⟩ wr := by
  conv => arg 2; whnf
  have HKK := Aside0.mk hK
  clear hK
  have HP := Aside0.mk hp
  clear hp
  go_wp2_with fail
  go_loopg [67,68,70] (p + 1) (fun kq v67 v68 v70 w' => ∃ i s q : Nat,v67 = .int .i64 (s : Int) ∧ v68 = .int .i64 (q : Int) ∧ v70 = .int .i64 (i : Int) ∧ Aside0 (s = HRiseP.sm (HRiseQ.rowS n) i ∧ q = HRiseP.sm (fun i => i * HRiseQ.rowS n i) i ∧ i ≤ p + 1) ∧ Aside0 (kq + i = p + 1) ∧ Aside0 (Below wb.heap.size wb w'))
  case atStart => exact ⟨0,0,0,rfl,rfl,rfl,⟨rfl,rfl,by omega⟩,⟨rfl⟩,⟨(by repeat first|(with_reducible first|exact HB.out|apply below_alloc|apply pw_below_drewN|apply below_drew1)|exact HB.out)⟩⟩
  case round =>
    clear HB
    obtain ⟨i,s0,q0,rfl,rfl,rfl,HS,HK,HB⟩ := hrel
    have hk := HK.out
    by_cases hi : i ≤ p
    · have HK0 := Aside0.mk hk
      have HI0 := Aside0.mk hi
      have d1 : decide (i ≤ p) = true := decide_eq_true hi
      have d2 : decide ((i : Int) ≤ (p : Int)) = true := decide_eq_true (by omega)
      have hwi : IntKind.i64.wrap ((i : Int) + 1) = (i : Int) + 1 := IntWalk.i64_in _ (by have := HP.out; omega)
      clear hk
      go_wp2_with fail
      go_loopg [67,68,71] (p + 1) (fun kq v67 v68 v71 w' => ∃ j s q : Nat,v67 = .int .i64 (s : Int) ∧ v68 = .int .i64 (q : Int) ∧ v71 = .int .i64 (j : Int) ∧ Aside0 (s = s0 + HRiseP.sm (fun j => HPlain.seenC n i j) j ∧ q = q0 + i * HRiseP.sm (fun j => HPlain.seenC n i j) j ∧ j ≤ p + 1) ∧ Aside0 (kq + j = p + 1) ∧ Aside0 (Below wb.heap.size wb w'))
      case atStart => exact ⟨0,s0,q0,rfl,rfl,rfl,⟨rfl,rfl,by omega⟩,⟨rfl⟩,⟨(by repeat first|(with_reducible first|exact HB.out|apply below_alloc|apply pw_below_drewN|apply below_drew1)|exact HB.out)⟩⟩
      case round =>
        clear HB
        obtain ⟨j,s,q,rfl,rfl,rfl,HSJ,HKJ,HB⟩ := hrel
        have hkj := HKJ.out
        by_cases hj : j ≤ p
        · have HKJ0 := Aside0.mk hkj
          have HJ0 := Aside0.mk hj
          have hb := HBD.out i j hi hj
          have hs := HSJ.out
          have hs0 := HS.out
          have HC1 := Aside0.mk (HCB.out i j hi hj)
          have Ab : HRiseP.sm (fun j => HPlain.seenC n i j) (j + 1) = HRiseP.sm (fun j => HPlain.seenC n i j) j + HPlain.seenC n i j := rfl
          rw [Ab,Nat.mul_add,← hs0.1,← hs0.2.1] at hb
          have E2 := Aside0.mk (show s + HPlain.seenC n i j = s0 + HRiseP.sm (fun j => HPlain.seenC n i j) (j + 1) by rw [Ab,hs.1]; omega)
          have E3 := Aside0.mk (show q + i * HPlain.seenC n i j = q0 + i * HRiseP.sm (fun j => HPlain.seenC n i j) (j + 1) by rw [Ab,Nat.mul_add,hs.2.1]; omega)
          rw [← Nat.add_assoc,← Nat.add_assoc,← hs.1,← hs.2.1] at hb
          generalize HPlain.seenC n i j = c at HC1 E2 E3 hb
          have z1 := HWR.add_w s c (by omega)
          have z2 := HWR.mul_w i c (by omega)
          generalize i * c = ic at z2 E3 hb
          have z3 := HWR.add_w q ic (by omega)
          generalize s + c = sc at z1 E2
          generalize q + ic = qc at z3 E3
          have hwj : IntKind.i64.wrap ((j : Int) + 1) = (j : Int) + 1 := IntWalk.i64_in _ (by have := HP.out; omega)
          have d3 : decide (j ≤ p) = true := decide_eq_true hj
          have d4 : decide ((j : Int) ≤ (p : Int)) = true := decide_eq_true (by omega)
          clear hb hs hs0 Ab hkj hj hi
          go_wp2_with (go_at_call 44; with_reducible refine (HC1.out _ (by repeat first|(with_reducible first|exact HB.out|apply below_alloc|apply pw_below_drewN|apply below_drew1)|exact HB.out)).mono ?_; rintro e w1 ⟨rfl,⟨nd1,rfl⟩⟩; try dsimp only)
          go_roundg (p + 1 - (j + 1))
          case measure => have := HKJ0.out; have := HJ0.out; omega
          case rel => exact ⟨j + 1,sc,qc,rfl,rfl,by first | rfl | simp,⟨E2.out,E3.out,by have := HJ0.out; omega⟩,⟨by have := HKJ0.out; have := HJ0.out; omega⟩,⟨(by repeat first|(with_reducible first|exact HB.out|apply below_alloc|apply pw_below_drewN|apply below_drew1)|exact HB.out)⟩⟩
        · have d3 : decide (j ≤ p) = false := decide_eq_false hj
          have d4 : decide ((j : Int) ≤ (p : Int)) = false := decide_eq_false (by omega)
          have hs := HSJ.out
          have hje : j = n + 2 := by have := HP.out; omega
          have E2 := Aside0.mk (show s = HRiseP.sm (HRiseQ.rowS n) (i + 1) by rw [hs.1,HS.out.1,hje]; rfl)
          have E3 := Aside0.mk (show q = HRiseP.sm (fun i => i * HRiseQ.rowS n i) (i + 1) by rw [hs.2.1,HS.out.2.1,hje]; rfl)
          clear hs hkj hj hi hje
          go_wp2_with fail
          go_roundg (p + 1 - (i + 1))
          case measure => have := HK0.out; have := HI0.out; omega
          case rel => exact ⟨i + 1,s,q,rfl,rfl,by first | rfl | simp,⟨E2.out,E3.out,by have := HI0.out; omega⟩,⟨by have := HK0.out; have := HI0.out; omega⟩,⟨(by repeat first|(with_reducible first|exact HB.out|apply below_alloc|apply pw_below_drewN|apply below_drew1)|exact HB.out)⟩⟩
    · have d1 : decide (i ≤ p) = false := decide_eq_false hi
      have d2 : decide ((i : Int) ≤ (p : Int)) = false := decide_eq_false (by omega)
      have hs := HS.out
      have hie : i = n + 2 := by have := HP.out; omega
      have Ab : s0 = HRiseQ.allS n := by rw [hs.1,hie]; rfl
      have Ac : q0 = HRiseQ.allW n := by rw [hs.2.1,hie]; rfl
      subst Ab Ac
      clear hs hk hi HS hie
      generalize HRiseQ.allS n = s at *
      generalize HRiseQ.allW n = q at *
      go_wp2_with fail
      exact HKK.out rfl rfl ⟨(by repeat first|(with_reducible first|exact HB.out|apply below_alloc|apply pw_below_drewN|apply below_drew1)|exact HB.out)⟩
end Go.Proofs.Ytleacijhpkogpad.HBigU
/- The law on who rises (FnHeightsRise),a part of its walk: means. -/
namespace Go.Proofs.Ytleacijhpkogpad.HBigU
open Go.RowKit YtleacijhpkogpadW.PrintWords YtleacijhpkogpadW.PrintLast YtleacijhpkogpadW.PrintMore Part HImpl

theorem partM (p n N D : Nat) (wb : World) (wr : World)
    (HB : Aside0 (Below wb.heap.size wb wr))
    (hp : Aside0 (p = n + 1)) (hn : Aside0 (n ≤ 14)) (HFB : Aside0 (∀ i : Nat,i ≤ 14 → HRiseQ.allS i ≤ 1307674368000)) (HCB : Aside0 (∀ i j : Nat,i ≤ p → j ≤ p → ∀ W,Below wb.heap.size wb W → Calls Try.prog 44 #[.int .i64 (p : Int),.int .i64 (i : Int),.int .i64 (j : Int)] W fun e w' => e = .returned (.tuple #[.int .i64 (HPlain.seenC n i j : Int),.bool true]) ∧ Drawn0 W w')) (HBD : Aside0 (∀ i j : Nat,i ≤ p → j ≤ p → HRiseP.sm (HRiseQ.rowS n) i + HRiseP.sm (fun j => HPlain.seenC n i j) (j + 1) ≤ 100000000000000 ∧ HRiseP.sm (fun i => i * HRiseQ.rowS n i) i + i * HRiseP.sm (fun j => HPlain.seenC n i j) (j + 1) ≤ 100000000000000)) (HMF : Aside0 (1 ≤ D ∧ HRiseQ.allS n % D = 0 ∧ HRiseQ.allW n = HRiseQ.allS n / D * N ∧ HRiseQ.allS n ≤ 1307674368000 ∧ HRiseQ.allW n ≤ 100000000000000))
    (Q' : Exit → Act → World → Prop) (K' : Act → World → Prop)
    (hK : ∀ ⦃Pu P3 P4 P5 P6 P7 P8 P9 Qb R3 R4 R5 R6 R7 R8 R9 Sb Sc Sd Se Sf Sg Sh Si Sj Sk Sl Sm Sn So Sp Sq Sr Ss St Su Sv Sw Sx Sy Sz S0 S2 S3 S4 S5 S6 S7 S8 S9 Ta Tb Tc Td Te Tf Tg Th Ti Tj Tk Tl Tm Tn To Tp : Value⦄ ⦃w' : World⦄,Aside0 (Below wb.heap.size wb w') → K' ⟨#[Aa,Ab,Ac,Ad,Pu,Af,Ag,Ah,Ai,Aj,Ak,Al,Am,An,Ao,Ap,Aq,Ar,As,At,Au,Av,Aw,Ax,Ay,Az,A0,A3,A4,A5,A6,A7,A8,A9,Ba,Bb,Bc,Bd,Be,Bf,Bg,Bh,Bi,Bj,Bk,Bl,Bm,Bn,Bo,Bp,Bq,.int .i64 (p : Int),.int .i64 (N : Int),.int .i64 (D : Int),Bu,Bv,Bw,Bx,By,Bz,B0,B1,B2,B3,B4,B5,P3,P4,P5,P6,P7,P8,P9,Qb,Ce,Cf,Cg,Ch,Ci,Cj,Ck,Cl,Cm,Cn,Co,Cp,Cq,Cr,Cs,Ct,Cu,Cv,Cw,Cx,Cy,Cz,C0,C1,C2,C7,C8,C9,Da,Db,Dc,Dd,De,Df,Dg,Dh,Di,Dj,Dk,Dl,Dm,Dn,Do,Dp,Dq,Dr,Ds,Dt,Du,Dv,Dw,Dx,Dy,Dz,D0,D1,D2,D3,D4,D5,D6,D7,D8,D9,Ea,Eb,Ec,Ed,Ee,Ef,Eg,Eh,Ei,Ej,Ek,El,Em,En,Eo,Ep,Er,Es,Et,Eu,Ev,Ew,Ex,Ey,Ez,E0,E1,E4,E5,E6,E7,E8,E9,Fa,Fb,Fc,Fd,Fe,Ff,Fg,Fh,Fi,Fj,Fk,Fl,Fm,Fn,Fo,Fp,Fq,Fr,Fs,Ft,Fu,Fv,Fw,Fx,Fy,Fz,F0,F1,F2,F3,F4,F5,F6,F7,F8,F9,Ga,Gb,Gc,Gd,Ge,Gf,Gg,Gh,Gi,Gj,Gk,Gl,Gm,Gn,Gp,Gq,Gr,Gs,Gt,Gu,Gv,Gw,Gx,Gy,Gz,G0,G1,G2,G3,G4,G5,G6,G7,G8,G9,Ha,Hb,Hc,Hd,He,Hf,Hg,Hh,Hi,Hj,Hk,Hl,Hm,Hn,Ho,Hp,Hq,Hr,Hs,Ht,Hu,Hv,Hw,Hx,Hy,Hz,H1,H2,H3,H4,H5,H6,H7,H8,H9,Ia,Ib,Ic,Ie,If,Ig,Ih,Ii,Ij,Ik,Il,Im,In,Io,Ip,Iq,Ir,Is,It,Iu,Iv,Iw,Ix,Iy,Iz,I0,I1,I2,I3,I4,I5,I6,I7,I8,I9,Ja,Jb,Jc,Jd,Je,Jf,Jg,Jh,Ji,Jj,Jk,Jl,Jm,Jn,Jo,Jp,Jq,Jr,Js,Jt,Ju,Jv,Jw,Jx,Jy,Jz,J0,J1,J2,J3,J4,J5,J6,J7,J8,J9,Ka,Kb,Kc,Ke,Kf,Kg,Kh,Ki,Kj,Kk,Kl,Km,Kn,Ko,Kp,Kq,Kr,Ks,Kt,Ku,Kv,Kw,Kx,Ky,Kz,K0,K1,K3,K4,K5,K6,K7,K8,K9,La,Lb,Lc,Ld,Le,Lf,Lg,Lh,Li,Lj,Lk,Ll,Lm,Ln,Lo,Lp,Lq,Lr,Ls,Lt,Lu,Lv,Lw,Lx,Ly,Lz,L0,L1,L2,L3,L4,L5,L6,L7,L8,L9,Ma,Mb,Mc,Md,Me,Mf,Mg,Mh,Mi,Mj,Mk,Ml,Mm,Mn,Mo,Mp,Mq,Mr,Ms,Mt,Mu,Mv,Mw,Mx,My,Mz,M0,M1,M2,M3,M4,M5,M6,M7,M8,M9,Na,Nb,Nc,Nd,Nf,Ng,Nh,Ni,Nj,Nk,Nl,Nm,Nn,No,Np,Nq,Nr,Ns,Nt,Nu,Nv,Nw,Nx,Ny,Nz,N0,N1,N2,N3,N4,N5,N6,.bool true,R3,R4,R5,R6,R7,R8,R9,Sb,Sc,Sd,Se,Sf,Sg,Sh,Si,Sj,Sk,Sl,Sm,Sn,So,Sp,Sq,Sr,Ss,St,Su,Sv,Sw,Sx,Sy,Sz,S0,S2,S3,S4,S5,S6,S7,S8,S9,Ta,Tb,Tc,Td,Te,Tf,Tg,Th,Ti,Tj,Tk,Tl,Tm,Tn,To,Tp],[]⟩ w') :
    Code.wp Try.prog (condOf Try.f4 486) (Exit.then K' Q') ⟨#[Aa,Ab,Ac,Ad,Ae,Af,Ag,Ah,Ai,Aj,Ak,Al,Am,An,Ao,Ap,Aq,Ar,As,At,Au,Av,Aw,Ax,Ay,Az,A0,A3,A4,A5,A6,A7,A8,A9,Ba,Bb,Bc,Bd,Be,Bf,Bg,Bh,Bi,Bj,Bk,Bl,Bm,Bn,Bo,Bp,Bq,.int .i64 (p : Int),.int .i64 (N : Int),.int .i64 (D : Int),Bu,Bv,Bw,Bx,By,Bz,B0,B1,B2,B3,B4,B5,B6,B7,B8,B9,Ca,Cb,Cc,Cd,Ce,Cf,Cg,Ch,Ci,Cj,Ck,Cl,Cm,Cn,Co,Cp,Cq,Cr,Cs,Ct,Cu,Cv,Cw,Cx,Cy,Cz,C0,C1,C2,C7,C8,C9,Da,Db,Dc,Dd,De,Df,Dg,Dh,Di,Dj,Dk,Dl,Dm,Dn,Do,Dp,Dq,Dr,Ds,Dt,Du,Dv,Dw,Dx,Dy,Dz,D0,D1,D2,D3,D4,D5,D6,D7,D8,D9,Ea,Eb,Ec,Ed,Ee,Ef,Eg,Eh,Ei,Ej,Ek,El,Em,En,Eo,Ep,Er,Es,Et,Eu,Ev,Ew,Ex,Ey,Ez,E0,E1,E4,E5,E6,E7,E8,E9,Fa,Fb,Fc,Fd,Fe,Ff,Fg,Fh,Fi,Fj,Fk,Fl,Fm,Fn,Fo,Fp,Fq,Fr,Fs,Ft,Fu,Fv,Fw,Fx,Fy,Fz,F0,F1,F2,F3,F4,F5,F6,F7,F8,F9,Ga,Gb,Gc,Gd,Ge,Gf,Gg,Gh,Gi,Gj,Gk,Gl,Gm,Gn,Gp,Gq,Gr,Gs,Gt,Gu,Gv,Gw,Gx,Gy,Gz,G0,G1,G2,G3,G4,G5,G6,G7,G8,G9,Ha,Hb,Hc,Hd,He,Hf,Hg,Hh,Hi,Hj,Hk,Hl,Hm,Hn,Ho,Hp,Hq,Hr,Hs,Ht,Hu,Hv,Hw,Hx,Hy,Hz,H1,H2,H3,H4,H5,H6,H7,H8,H9,Ia,Ib,Ic,Ie,If,Ig,Ih,Ii,Ij,Ik,Il,Im,In,Io,Ip,Iq,Ir,Is,It,Iu,Iv,Iw,Ix,Iy,Iz,I0,I1,I2,I3,I4,I5,I6,I7,I8,I9,Ja,Jb,Jc,Jd,Je,Jf,Jg,Jh,Ji,Jj,Jk,Jl,Jm,Jn,Jo,Jp,Jq,Jr,Js,Jt,Ju,Jv,Jw,Jx,Jy,Jz,J0,J1,J2,J3,J4,J5,J6,J7,J8,J9,Ka,Kb,Kc,Ke,Kf,Kg,Kh,Ki,Kj,Kk,Kl,Km,Kn,Ko,Kp,Kq,Kr,Ks,Kt,Ku,Kv,Kw,Kx,Ky,Kz,K0,K1,K3,K4,K5,K6,K7,K8,K9,La,Lb,Lc,Ld,Le,Lf,Lg,Lh,Li,Lj,Lk,Ll,Lm,Ln,Lo,Lp,Lq,Lr,Ls,Lt,Lu,Lv,Lw,Lx,Ly,Lz,L0,L1,L2,L3,L4,L5,L6,L7,L8,L9,Ma,Mb,Mc,Md,Me,Mf,Mg,Mh,Mi,Mj,Mk,Ml,Mm,Mn,Mo,Mp,Mq,Mr,Ms,Mt,Mu,Mv,Mw,Mx,My,Mz,M0,M1,M2,M3,M4,M5,M6,M7,M8,M9,Na,Nb,Nc,Nd,Nf,Ng,Nh,Ni,Nj,Nk,Nl,Nm,Nn,No,Np,Nq,Nr,Ns,Nt,Nu,Nv,Nw,Nx,Ny,Nz,N0,N1,N2,N3,N4,N5,N6,.bool true,N8,N9,Oa,Ob,Oc,Od,Oe,Of,Og,Oh,Oi,Oj,Ok,Ol,Om,On,Oo,Op,Oq,Os,Ot,Ou,Ov,Ow,Ox,Oy,Oz,O0,O1,O2,O3,O4,O5,O6,O7,O8,O9,Pa,Pb,Pc,Pd,Pe,Pf,Pg,Ph,Pi,Pj,Pk,Pl,Pm,Pn,Po,Pp,Pq,Pr,Ps,Pt],[]⟩ wr := by
  conv => arg 2; whnf
  have HKK := Aside0.mk hK
  clear hK
  go_upto_region 64 with fail
  try simp only [List.append]
  go_cut [66,67,68] from 487 to 487 (fun s1 s2 s3 wx => s1 = .int .i64 1 ∧ s2 = .int .i64 0 ∧ s3 = .int .i64 0 ∧ Aside0 (Below wb.heap.size wb wx))
  case first =>
    go_wp2_with fail
    go_meet
    case rel => exact ⟨rfl,rfl,rfl,⟨(by repeat first|(with_reducible first|exact HB.out|apply below_alloc|apply pw_below_drewN|apply below_drew1)|exact HB.out)⟩⟩
  case rest =>
  clear HB
  obtain ⟨rfl,rfl,rfl,HB⟩ := hcut
  refine (by assumption : ∀ (a : Act) (w : World),Code.wp _ _ _ a w → _) _ _ ?_
  with_reducible refine wp_seq_k (fun K2 hk2 => ?_)
  refine partF p n wb _ ⟨(by repeat first|(with_reducible first|exact HB.out|apply below_alloc|apply pw_below_drewN|apply below_drew1)|exact HB.out)⟩ hp.out hn.out HFB _ _ ?_
  intro P3 P6 R3 R4 R5 R6 R7 R8 R9 Sb w21 h70 hb
  subst h70; clear HB; have HB := hb; clear hb
  refine hk2 _ _ ?_
  clear hk2 K2
  with_reducible refine wp_seq_k (fun K2 hk2 => ?_)
  refine partS p n wb _ ⟨(by repeat first|(with_reducible first|exact HB.out|apply below_alloc|apply pw_below_drewN|apply below_drew1)|exact HB.out)⟩ hp.out hn.out HCB HBD _ _ ?_
  intro Pu P4 P5 P7 P8 P9 Qb Sc Sd Se Sf Sg Sh Si Sj Sk Sl Sm Sn So Sp Sq Sr Ss St Su Sv Sw Sx Sy Sz S0 S2 S3 w22 h71 h72 hb
  subst h71 h72; clear HB; have HB := hb; clear hb
  refine hk2 _ _ ?_
  clear hk2 K2
  have hmf := HMF.out
  generalize HRiseQ.allS n = Sa at *
  generalize HRiseQ.allW n = Wa at *
  obtain ⟨m1,m2,m3,m4,m5⟩ := hmf
  have y1 : (Sa : Int) % (D : Int) = 0 := by rw [← Int.natCast_emod,m2]; rfl
  have y2 : Int.tmod (Sa : Int) (D : Int) = 0 := by rw [Int.tmod_eq_emod_of_nonneg (by omega)]; exact y1
  have y3 : (Sa : Int) / (D : Int) = ((Sa / D : Nat) : Int) := by rw [Int.natCast_ediv]
  have y4 : Int.tdiv (Sa : Int) (D : Int) = ((Sa / D : Nat) : Int) := by rw [Int.tdiv_eq_ediv_of_nonneg (by omega)]; exact y3
  have hq := Nat.div_le_self Sa D
  generalize Sa / D = Qa at *
  have y11 : wrap64 (Qa : Int) = (Qa : Int) := by unfold wrap64; omega
  have y5 : IntKind.i64.wrap ((Qa : Int) * (N : Int)) = (Wa : Int) := by rw [m3]; exact HWR.mul_w Qa N (by omega)
  have y12 : wrap64 ((Qa : Int) * (N : Int)) = (Wa : Int) := (i64_w _).symm.trans y5
  have y13 : ((Wa : Int) != wrap64 (wrap64 (Qa : Int) * (N : Int))) = false := by rw [y11,y12]; exact bne_self_eq_false _
  have y6 : decide ((D : Int) < 1) = false := by simp; omega
  have y7 : decide (D < 1) = false := by simp; omega
  have y8 : ((D : Int) == 0) = false := beq_eq_false_iff_ne.mpr (by omega)
  have y9 : (0 : Int) ≤ (Sa : Int) := by omega
  have y10 : (0 : Int) < (D : Int) := by omega
  have HM := Aside0.mk m3
  clear m1 m2 m3 m4 m5 HMF hq
  go_wp2_with fail
  exact HKK.out ⟨(by repeat first|(with_reducible first|exact HB.out|apply below_alloc|apply pw_below_drewN|apply below_drew1)|exact HB.out)⟩
theorem partM_no (wb : World) (wr : World)
    (HB : Aside0 (Below wb.heap.size wb wr))
    (Q' : Exit → Act → World → Prop) (K' : Act → World → Prop)
    (hK : ∀ ⦃Pu P3 P4 P5 P6 P7 P8 P9 Qb R3 R4 R5 R6 R7 R8 R9 Sb Sc Sd Se Sf Sg Sh Si Sj Sk Sl Sm Sn So Sp Sq Sr Ss St Su Sv Sw Sx Sy Sz S0 S2 S3 S4 S5 S6 S7 S8 S9 Ta Tb Tc Td Te Tf Tg Th Ti Tj Tk Tl Tm Tn To Tp : Value⦄ ⦃w' : World⦄,Aside0 (Below wb.heap.size wb w') → K' ⟨#[Aa,Ab,Ac,Ad,Pu,Af,Ag,Ah,Ai,Aj,Ak,Al,Am,An,Ao,Ap,Aq,Ar,As,At,Au,Av,Aw,Ax,Ay,Az,A0,A3,A4,A5,A6,A7,A8,A9,Ba,Bb,Bc,Bd,Be,Bf,Bg,Bh,Bi,Bj,Bk,Bl,Bm,Bn,Bo,Bp,Bq,Br,Bs,Bt,Bu,Bv,Bw,Bx,By,Bz,B0,B1,B2,B3,B4,B5,P3,P4,P5,P6,P7,P8,P9,Qb,Ce,Cf,Cg,Ch,Ci,Cj,Ck,Cl,Cm,Cn,Co,Cp,Cq,Cr,Cs,Ct,Cu,Cv,Cw,Cx,Cy,Cz,C0,C1,C2,C7,C8,C9,Da,Db,Dc,Dd,De,Df,Dg,Dh,Di,Dj,Dk,Dl,Dm,Dn,Do,Dp,Dq,Dr,Ds,Dt,Du,Dv,Dw,Dx,Dy,Dz,D0,D1,D2,D3,D4,D5,D6,D7,D8,D9,Ea,Eb,Ec,Ed,Ee,Ef,Eg,Eh,Ei,Ej,Ek,El,Em,En,Eo,Ep,Er,Es,Et,Eu,Ev,Ew,Ex,Ey,Ez,E0,E1,E4,E5,E6,E7,E8,E9,Fa,Fb,Fc,Fd,Fe,Ff,Fg,Fh,Fi,Fj,Fk,Fl,Fm,Fn,Fo,Fp,Fq,Fr,Fs,Ft,Fu,Fv,Fw,Fx,Fy,Fz,F0,F1,F2,F3,F4,F5,F6,F7,F8,F9,Ga,Gb,Gc,Gd,Ge,Gf,Gg,Gh,Gi,Gj,Gk,Gl,Gm,Gn,Gp,Gq,Gr,Gs,Gt,Gu,Gv,Gw,Gx,Gy,Gz,G0,G1,G2,G3,G4,G5,G6,G7,G8,G9,Ha,Hb,Hc,Hd,He,Hf,Hg,Hh,Hi,Hj,Hk,Hl,Hm,Hn,Ho,Hp,Hq,Hr,Hs,Ht,Hu,Hv,Hw,Hx,Hy,Hz,H1,H2,H3,H4,H5,H6,H7,H8,H9,Ia,Ib,Ic,Ie,If,Ig,Ih,Ii,Ij,Ik,Il,Im,In,Io,Ip,Iq,Ir,Is,It,Iu,Iv,Iw,Ix,Iy,Iz,I0,I1,I2,I3,I4,I5,I6,I7,I8,I9,Ja,Jb,Jc,Jd,Je,Jf,Jg,Jh,Ji,Jj,Jk,Jl,Jm,Jn,Jo,Jp,Jq,Jr,Js,Jt,Ju,Jv,Jw,Jx,Jy,Jz,J0,J1,J2,J3,J4,J5,J6,J7,J8,J9,Ka,Kb,Kc,Ke,Kf,Kg,Kh,Ki,Kj,Kk,Kl,Km,Kn,Ko,Kp,Kq,Kr,Ks,Kt,Ku,Kv,Kw,Kx,Ky,Kz,K0,K1,K3,K4,K5,K6,K7,K8,K9,La,Lb,Lc,Ld,Le,Lf,Lg,Lh,Li,Lj,Lk,Ll,Lm,Ln,Lo,Lp,Lq,Lr,Ls,Lt,Lu,Lv,Lw,Lx,Ly,Lz,L0,L1,L2,L3,L4,L5,L6,L7,L8,L9,Ma,Mb,Mc,Md,Me,Mf,Mg,Mh,Mi,Mj,Mk,Ml,Mm,Mn,Mo,Mp,Mq,Mr,Ms,Mt,Mu,Mv,Mw,Mx,My,Mz,M0,M1,M2,M3,M4,M5,M6,M7,M8,M9,Na,Nb,Nc,Nd,Nf,Ng,Nh,Ni,Nj,Nk,Nl,Nm,Nn,No,Np,Nq,Nr,Ns,Nt,Nu,Nv,Nw,Nx,Ny,Nz,N0,N1,N2,N3,N4,N5,N6,.bool false,R3,R4,R5,R6,R7,R8,R9,Sb,Sc,Sd,Se,Sf,Sg,Sh,Si,Sj,Sk,Sl,Sm,Sn,So,Sp,Sq,Sr,Ss,St,Su,Sv,Sw,Sx,Sy,Sz,S0,S2,S3,S4,S5,S6,S7,S8,S9,Ta,Tb,Tc,Td,Te,Tf,Tg,Th,Ti,Tj,Tk,Tl,Tm,Tn,To,Tp],[]⟩ w') :
    Code.wp Try.prog (condOf Try.f4 486) (Exit.then K' Q') ⟨#[Aa,Ab,Ac,Ad,Ae,Af,Ag,Ah,Ai,Aj,Ak,Al,Am,An,Ao,Ap,Aq,Ar,As,At,Au,Av,Aw,Ax,Ay,Az,A0,A3,A4,A5,A6,A7,A8,A9,Ba,Bb,Bc,Bd,Be,Bf,Bg,Bh,Bi,Bj,Bk,Bl,Bm,Bn,Bo,Bp,Bq,Br,Bs,Bt,Bu,Bv,Bw,Bx,By,Bz,B0,B1,B2,B3,B4,B5,B6,B7,B8,B9,Ca,Cb,Cc,Cd,Ce,Cf,Cg,Ch,Ci,Cj,Ck,Cl,Cm,Cn,Co,Cp,Cq,Cr,Cs,Ct,Cu,Cv,Cw,Cx,Cy,Cz,C0,C1,C2,C7,C8,C9,Da,Db,Dc,Dd,De,Df,Dg,Dh,Di,Dj,Dk,Dl,Dm,Dn,Do,Dp,Dq,Dr,Ds,Dt,Du,Dv,Dw,Dx,Dy,Dz,D0,D1,D2,D3,D4,D5,D6,D7,D8,D9,Ea,Eb,Ec,Ed,Ee,Ef,Eg,Eh,Ei,Ej,Ek,El,Em,En,Eo,Ep,Er,Es,Et,Eu,Ev,Ew,Ex,Ey,Ez,E0,E1,E4,E5,E6,E7,E8,E9,Fa,Fb,Fc,Fd,Fe,Ff,Fg,Fh,Fi,Fj,Fk,Fl,Fm,Fn,Fo,Fp,Fq,Fr,Fs,Ft,Fu,Fv,Fw,Fx,Fy,Fz,F0,F1,F2,F3,F4,F5,F6,F7,F8,F9,Ga,Gb,Gc,Gd,Ge,Gf,Gg,Gh,Gi,Gj,Gk,Gl,Gm,Gn,Gp,Gq,Gr,Gs,Gt,Gu,Gv,Gw,Gx,Gy,Gz,G0,G1,G2,G3,G4,G5,G6,G7,G8,G9,Ha,Hb,Hc,Hd,He,Hf,Hg,Hh,Hi,Hj,Hk,Hl,Hm,Hn,Ho,Hp,Hq,Hr,Hs,Ht,Hu,Hv,Hw,Hx,Hy,Hz,H1,H2,H3,H4,H5,H6,H7,H8,H9,Ia,Ib,Ic,Ie,If,Ig,Ih,Ii,Ij,Ik,Il,Im,In,Io,Ip,Iq,Ir,Is,It,Iu,Iv,Iw,Ix,Iy,Iz,I0,I1,I2,I3,I4,I5,I6,I7,I8,I9,Ja,Jb,Jc,Jd,Je,Jf,Jg,Jh,Ji,Jj,Jk,Jl,Jm,Jn,Jo,Jp,Jq,Jr,Js,Jt,Ju,Jv,Jw,Jx,Jy,Jz,J0,J1,J2,J3,J4,J5,J6,J7,J8,J9,Ka,Kb,Kc,Ke,Kf,Kg,Kh,Ki,Kj,Kk,Kl,Km,Kn,Ko,Kp,Kq,Kr,Ks,Kt,Ku,Kv,Kw,Kx,Ky,Kz,K0,K1,K3,K4,K5,K6,K7,K8,K9,La,Lb,Lc,Ld,Le,Lf,Lg,Lh,Li,Lj,Lk,Ll,Lm,Ln,Lo,Lp,Lq,Lr,Ls,Lt,Lu,Lv,Lw,Lx,Ly,Lz,L0,L1,L2,L3,L4,L5,L6,L7,L8,L9,Ma,Mb,Mc,Md,Me,Mf,Mg,Mh,Mi,Mj,Mk,Ml,Mm,Mn,Mo,Mp,Mq,Mr,Ms,Mt,Mu,Mv,Mw,Mx,My,Mz,M0,M1,M2,M3,M4,M5,M6,M7,M8,M9,Na,Nb,Nc,Nd,Nf,Ng,Nh,Ni,Nj,Nk,Nl,Nm,Nn,No,Np,Nq,Nr,Ns,Nt,Nu,Nv,Nw,Nx,Ny,Nz,N0,N1,N2,N3,N4,N5,N6,.bool false,N8,N9,Oa,Ob,Oc,Od,Oe,Of,Og,Oh,Oi,Oj,Ok,Ol,Om,On,Oo,Op,Oq,Os,Ot,Ou,Ov,Ow,Ox,Oy,Oz,O0,O1,O2,O3,O4,O5,O6,O7,O8,O9,Pa,Pb,Pc,Pd,Pe,Pf,Pg,Ph,Pi,Pj,Pk,Pl,Pm,Pn,Po,Pp,Pq,Pr,Ps,Pt],[]⟩ wr := by
  conv => arg 2; whnf
  have HKK := Aside0.mk hK
  clear hK
  go_wp2_with fail
  exact HKK.out ⟨(by repeat first|(with_reducible first|exact HB.out|apply below_alloc|apply pw_below_drewN|apply below_drew1)|exact HB.out)⟩
end Go.Proofs.Ytleacijhpkogpad.HBigU
